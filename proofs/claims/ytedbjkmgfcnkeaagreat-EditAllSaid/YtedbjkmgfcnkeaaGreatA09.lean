/- name.Move. -/
import Derived.Test.YtedbjkmgfcnkeaaGreatA08

namespace Go.Proofs.YtedbjkmgfcnkeaaGreat
open Go.RowKit

/-- where a path stands, once another one was moved -/
def moveT (p f t : List UInt8) : List UInt8 × Bool :=
  if goodB p && goodB f && goodB t && (p == f || underB p f) && goodB (t ++ p.drop f.length) then (t ++ p.drop f.length, true) else ([], false)
theorem drop_pre {p f : List UInt8} (h : preB p f = true) : ∃ q, p = f ++ 47 :: q := by
  unfold preB at h
  obtain ⟨q, rfl⟩ := List.isPrefixOf_iff_prefix.1 h
  exact ⟨q, by simp⟩
/-- the same by parts -/
theorem move_parts {p f : List UInt8} (t : List UInt8) (h : p = f ∨ preB p f = true) : pasteL (cutL t ++ (cutL p).drop (cutL f).length) = t ++ p.drop f.length := by
  rcases h with rfl | h
  · rw [List.drop_of_length_le (Nat.le_refl _), List.drop_of_length_le (Nat.le_refl _), List.append_nil, List.append_nil, paste_cut]
  · obtain ⟨q, rfl⟩ := drop_pre h
    rw [cut_app, List.drop_left' rfl, List.drop_left' rfl, paste_app _ _ (cutL_ne t) (cutL_ne q), paste_cut, paste_cut]

set_option maxRecDepth 100000 in
set_option maxHeartbeats 1000000 in
theorem move_any (p f t : ByteArray) (hp : p.size ≤ 1048576) (hf : f.size ≤ 1048576) (ht : t.size ≤ 1048576) (w : World) : Calls Tryz.prog 110 #[.string p, .string f, .string t] w fun e w' => ∃ s b, e = .returned (.tuple #[.string s, .bool b]) ∧ Hid ((tl s, b) = moveT (tl p) (tl f) (tl t)) ∧ Below w.heap.size w w' := by
  obtain ⟨M, hM⟩ : ∃ M, M = moveT (tl p) (tl f) (tl t) := ⟨_, rfl⟩
  rw [← hM]
  cases gp : goodB (tl p)
  · have HP := Lib.hid (check_no p (by omega) gp)
    have HM : Hid (M = ([], false)) := by show _ = _; rw [hM]; unfold moveT; rw [gp]; rfl
    clear gp hM
    go_enter Tryz.func110, Tryz.ntmps110
    go_wp2_with fail
    refine (HP.out _).mono ?_
    rintro e w1 ⟨rfl, hb1⟩
    go_wp2_with fail
    go_ret2
    exact ⟨_, _, rfl, HM.out.symm, hb1⟩
  have HP := Lib.hid (check_yes p (by omega) gp)
  cases gf : goodB (tl f)
  · have HF := Lib.hid (check_no f (by omega) gf)
    have HM : Hid (M = ([], false)) := by show _ = _; rw [hM]; unfold moveT; rw [gp, gf]; rfl
    clear gp gf hM
    go_enter Tryz.func110, Tryz.ntmps110
    go_wp2_with fail
    refine (HP.out _).mono ?_
    rintro e w1 ⟨rfl, hb1⟩
    go_wp2_with fail
    refine (HF.out _).mono ?_
    rintro e w2 ⟨rfl, hb2⟩
    go_wp2_with fail
    go_ret2
    exact ⟨_, _, rfl, HM.out.symm, bthen hb1 hb2⟩
  have HF := Lib.hid (check_yes f (by omega) gf)
  cases gt : goodB (tl t)
  · have HT := Lib.hid (check_no t (by omega) gt)
    have HM : Hid (M = ([], false)) := by show _ = _; rw [hM]; unfold moveT; rw [gp, gf, gt]; rfl
    clear gp gf gt hM
    go_enter Tryz.func110, Tryz.ntmps110
    go_wp2_with fail
    refine (HP.out _).mono ?_
    rintro e w1 ⟨rfl, hb1⟩
    go_wp2_with fail
    refine (HF.out _).mono ?_
    rintro e w2 ⟨rfl, hb2⟩
    go_wp2_with fail
    refine (HT.out _).mono ?_
    rintro e w3 ⟨rfl, hb3⟩
    go_wp2_with fail
    go_ret2
    exact ⟨_, _, rfl, HM.out.symm, bthen (bthen hb1 hb2) hb3⟩
  have HT := Lib.hid (check_yes t (by omega) gt)
  have HU := Lib.hid (fun w => under_any p f (by omega) (by omega) w)
  have hts := goodB_len gt
  rw [tl_len] at hts
  have hps := goodB_len gp
  rw [tl_len] at hps
  have hfs := goodB_len gf
  rw [tl_len] at hfs
  -- the new path
  have hO : ∀ (_ : f.size ≤ p.size), tl (t ++ p.extract f.size p.size) = tl t ++ (tl p).drop (tl f).length := fun _ => by rw [under_short, tl_tail, tl_len]
  by_cases hor : p = f ∨ preB (tl p) (tl f) = true
  · have hle : f.size ≤ p.size := by
      rcases hor with h | h
      · rw [h]; exact Nat.le_refl _
      · obtain ⟨q, h⟩ := drop_pre h
        have := congrArg List.length h
        rw [List.length_append, tl_len, tl_len] at this
        omega
    have hor2 : (tl p == tl f || underB (tl p) (tl f)) = true := by
      rcases hor with h | h
      · rw [h]; simp
      · unfold underB; rw [gp, gf, h]; simp
    cases go : goodB (tl t ++ (tl p).drop (tl f).length)
    all_goals
      have HG := Lib.hid (fun w => check_any (t ++ p.extract f.size p.size) (by simp; omega) w)
      rw [hO hle, go] at HG
      have HM : Hid (M = if goodB (tl t ++ (tl p).drop (tl f).length) then (tl (t ++ p.extract f.size p.size), true) else ([], false)) := by
        show _ = _
        rw [hM]; unfold moveT; rw [gp, gf, gt, hor2, go, hO hle]; rfl
      rw [go] at HM
      have b1 : (f.size : Int) ≤ (p.size : Int) := by omega
      have b2 : (0 : Int) ≤ (f.size : Int) := by omega
      have b3 : t.size + (p.size - f.size) ≤ 9223372036854775807 := by omega
      by_cases hpf : p = f
      · have hn := neq_yes hpf
        clear gp gf gt hor hor2 hM hO go hpf
        go_enter Tryz.func110, Tryz.ntmps110
        go_wp2_with fail
        refine (HP.out _).mono ?_
        rintro e w1 ⟨rfl, hb1⟩
        go_wp2_with fail
        refine (HF.out _).mono ?_
        rintro e w2 ⟨rfl, hb2⟩
        go_wp2_with fail
        refine (HT.out _).mono ?_
        rintro e w3 ⟨rfl, hb3⟩
        replace hb3 := bthen (bthen hb1 hb2) hb3
        go_wp2_with fail
        refine (HG.out _).mono ?_
        rintro e w4 ⟨rfl, hb4⟩
        go_wp2_with fail
        go_ret2
        exact ⟨_, _, rfl, HM.out.symm, bthen hb3 hb4⟩
      · have hn := neq_no hpf
        have hpu : preB (tl p) (tl f) = true := hor.resolve_left hpf
        have hut : underB (tl p) (tl f) = true := by unfold underB; rw [gp, gf, hpu]; rfl
        have HU2 := HU
        rw [hut] at HU2
        clear gp gf gt hor hor2 hM hO go hpf hpu hut HU
        go_enter Tryz.func110, Tryz.ntmps110
        go_wp2_with fail
        refine (HP.out _).mono ?_
        rintro e w1 ⟨rfl, hb1⟩
        go_wp2_with fail
        refine (HF.out _).mono ?_
        rintro e w2 ⟨rfl, hb2⟩
        go_wp2_with fail
        refine (HT.out _).mono ?_
        rintro e w3 ⟨rfl, hb3⟩
        replace hb3 := bthen (bthen hb1 hb2) hb3
        go_wp2_with fail
        refine (HU2.out _).mono ?_
        rintro e w5 ⟨rfl, hb5⟩
        replace hb5 := bthen hb3 hb5
        go_wp2_with fail
        refine (HG.out _).mono ?_
        rintro e w4 ⟨rfl, hb4⟩
        go_wp2_with fail
        go_ret2
        exact ⟨_, _, rfl, HM.out.symm, bthen hb5 hb4⟩
  · have hpf : p ≠ f := fun e => hor (.inl e)
    have hn := neq_no hpf
    have hut : underB (tl p) (tl f) = false := by
      have : preB (tl p) (tl f) = false := by cases h : preB (tl p) (tl f); rfl; exact (hor (.inr h)).elim
      unfold underB; rw [this]; simp
    have hne : (tl p == tl f) = false := by simp only [beq_eq_false_iff_ne, ne_eq]; exact fun e => hpf (tl_inj e)
    have HM : Hid (M = ([], false)) := by show _ = _; rw [hM]; unfold moveT; rw [hut, hne]; simp
    rw [hut] at HU
    clear gp gf gt hor hM hO hpf hut hne
    go_enter Tryz.func110, Tryz.ntmps110
    go_wp2_with fail
    refine (HP.out _).mono ?_
    rintro e w1 ⟨rfl, hb1⟩
    go_wp2_with fail
    refine (HF.out _).mono ?_
    rintro e w2 ⟨rfl, hb2⟩
    go_wp2_with fail
    refine (HT.out _).mono ?_
    rintro e w3 ⟨rfl, hb3⟩
    replace hb3 := bthen (bthen hb1 hb2) hb3
    go_wp2_with fail
    refine (HU.out _).mono ?_
    rintro e w5 ⟨rfl, hb5⟩
    replace hb5 := bthen hb3 hb5
    go_wp2_with fail
    go_ret2
    exact ⟨_, _, rfl, HM.out.symm, hb5⟩
end Go.Proofs.YtedbjkmgfcnkeaaGreat

/- What users' edits set, plainly. -/
namespace Go.Proofs.YtedbjkmgfcnkeaaGreat
open Go.RowKit

/-- an edit -/
structure XV where
  k : Int
  p : List UInt8
  t : List UInt8
  d : BV
/-- whether an edit is right -/
def checkX (k : Int) (p t : List UInt8) (n : Nat) : Int :=
  if userB p = false ∨ (k = 5 ∧ userB t = false) then 23
  else if k < 1 ∨ 5 < k ∨ (k = 5 ∧ (t = p ∨ underB t p = true)) then 2
  else if 4096 < n then 13 else 0
/-- nothing at a path, and under it -/
def goneS (T : List (List UInt8 × LP)) (p : List UInt8) : List (List UInt8 × LP) := (((keysR T).filter fun q => underB q p).reverse ++ [p]).map fun q => (q, (0, []))
/-- what stands at a path, as a leaf -/
def leafS (T : List (List UInt8 × LP)) (p : List UInt8) : LP := (kindL (getR T p), dataL (getR T p))
/-- a path and what is under it -/
def treeS (T : List (List UInt8 × LP)) (p : List UInt8) : List (List UInt8) := p :: (keysR T).filter fun q => underB q p
def movedS (T : List (List UInt8 × LP)) (p t : List UInt8) : List (List UInt8 × LP) × Int :=
  if kindL (getR T t) ≠ 0 then ([], 21)
  else if (treeS T p).all (fun q => (moveT q p t).2) = true then ((treeS T p).map (fun q => ((moveT q p t).1, leafS T q)) ++ goneS T p, 0)
  else ([], 23)
def planS (T : List (List UInt8 × LP)) (k : Int) (p t d : List UInt8) : List (List UInt8 × LP) × Int :=
  if k = 2 ∧ kindL (getR T p) = 2 then ([], 22)
  else if k = 2 then (if 4096 < (dataL (getR T p) ++ d).length then ([], 13) else ([(p, (1, dataL (getR T p) ++ d))], 0))
  else if k = 1 then ([(p, (1, d))], 0)
  else if k = 3 then ([(p, (2, []))], 0)
  else if kindL (getR T p) = 0 then ([], 20)
  else if k = 4 then (goneS T p, 0)
  else movedS T p t
/-- set, while there is no error -/
def tryS (T : List (List UInt8 × LP)) (l : List (List UInt8 × LP)) : List (List UInt8 × LP) × Int := l.foldl stepS (T, 0)
def itemsS (T : List (List UInt8 × LP)) (k : Int) (p t d : List UInt8) : List (List UInt8 × LP) × Int :=
  if checkX k p t d.length ≠ 0 then ([], checkX k p t d.length)
  else if (planS T k p t d).2 ≠ 0 then ([], (planS T k p t d).2)
  else if (tryS T (planS T k p t d).1).2 ≠ 0 then ([], (tryS T (planS T k p t d).1).2)
  else ((planS T k p t d).1, 0)
theorem try_snoc (T l : List (List UInt8 × LP)) (x : List UInt8 × LP) : tryS T (l ++ [x]) = stepS (tryS T l) x := by simp [tryS]
theorem try_stop (T l : List (List UInt8 × LP)) (i : Nat) (h : (tryS T (l.take i)).2 ≠ 0) : tryS T l = tryS T (l.take i) := by
  conv => lhs; rw [← List.take_append_drop i l]
  unfold tryS at h ⊢
  rw [List.foldl_append]
  exact step_stop _ h _
theorem try_ok (T l : List (List UInt8 × LP)) (h : TreeOk T) : TreeOk (tryS T l).1 := by
  have : ∀ (l : List (List UInt8 × LP)) R, TreeOk R.1 → TreeOk (l.foldl stepS R).1 := by
    intro l
    induction l with
    | nil => exact fun R h => h
    | cons x l ih =>
      intro R h
      refine ih _ ?_
      unfold stepS
      split
      · exact h.set x.1 x.2
      · exact h
  exact this l _ h
theorem move_top {p t : List UInt8} (hp : goodB p = true) (ht : goodB t = true) : moveT p p t = (t, true) := by
  unfold moveT
  rw [List.drop_length, List.append_nil, hp, ht]
  simp
theorem user_good {p : List UInt8} (h : userB p = true) : goodB p = true := by
  unfold userB at h
  simp only [Bool.and_eq_true] at h
  exact h.1
theorem good_ne {p : List UInt8} (h : goodB p = true) : p ≠ [] := by
  rintro rfl
  revert h
  decide
theorem move_ne (q p t : List UInt8) : (moveT q p t).2 = true ↔ (moveT q p t).1 ≠ [] := by
  unfold moveT
  split
  · rename_i h
    simp only [Bool.and_eq_true] at h
    exact ⟨fun _ => good_ne h.2, fun _ => rfl⟩
  · simp
theorem move_len (q p t : List UInt8) : (moveT q p t).1.length ≤ 96 := by
  unfold moveT
  split
  · rename_i h
    simp only [Bool.and_eq_true] at h
    exact goodB_len h.2
  · simp
/-- the items of a plan are few -/
theorem tree_len {T : List (List UInt8 × LP)} (h : TreeOk T) (p : List UInt8) : (treeS T p).length ≤ 129 := by
  have h1 := List.length_filter_le (fun q => underB q p) (keysR T)
  have h2 := keys_len T
  have h3 := h.len
  simp only [treeS, List.length_cons]
  omega
theorem gone_len {T : List (List UInt8 × LP)} (h : TreeOk T) (p : List UInt8) : (goneS T p).length ≤ 129 := by
  have h1 := List.length_filter_le (fun q => underB q p) (keysR T)
  have h2 := keys_len T
  have h3 := h.len
  simp only [goneS, List.length_map, List.length_append, List.length_reverse, List.length_cons, List.length_nil]
  omega

theorem leafS_len {T : List (List UInt8 × LP)} (h : TreeOk T) (p : List UInt8) : (leafS T p).2.length ≤ 4096 := by
  unfold leafS
  rcases hg : getR T p with _ | v
  · simp [dataL]
  · have h1 := (h.good _ (getR_mem hg)).2.2
    show v.2.length ≤ 4096
    unfold checkN at h1
    dsimp only at h1
    by_cases k1 : v.1 = 1
    · rw [if_pos k1] at h1
      by_cases h2 : v.2.length ≤ 4096
      · exact h2
      · rw [if_neg h2] at h1; simp at h1
    · rw [if_neg k1] at h1
      by_cases h3 : v.1 = 0 ∨ v.1 = 2
      · rw [if_pos h3] at h1
        by_cases h4 : v.2.length = 0
        · omega
        · rw [if_neg h4] at h1; simp at h1
      · rw [if_neg h3] at h1; simp at h1
theorem gone_small {T : List (List UInt8 × LP)} (h : TreeOk T) {p : List UInt8} (hp : p.length ≤ 1048576) : ∀ x ∈ goneS T p, x.1.length ≤ 1048576 ∧ x.2.2.length ≤ 4096 := by
  intro x hx
  obtain ⟨q, hq, rfl⟩ := List.mem_map.1 hx
  refine ⟨?_, by simp⟩
  rcases List.mem_append.1 hq with hq | hq
  · have h1 := (List.mem_filter.1 (List.mem_reverse.1 hq)).1
    obtain ⟨y, hy, rfl⟩ := List.mem_map.1 h1
    have := goodB_len (h.good y hy).1
    show y.1.length ≤ _
    omega
  · rw [List.mem_singleton.1 hq]; exact hp
theorem plan_small {T : List (List UInt8 × LP)} (h : TreeOk T) (k : Int) (p t d : List UInt8) (hp : p.length ≤ 1048576) (hd : d.length ≤ 4096) : (planS T k p t d).1.length ≤ 300 ∧ ∀ x ∈ (planS T k p t d).1, x.1.length ≤ 1048576 ∧ x.2.2.length ≤ 4096 := by
  have hg1 := gone_len h p
  have hg2 := gone_small h hp
  have ht := tree_len h p
  unfold planS
  split
  · simp
  · split
    · split
      · simp
      · rename_i h4
        refine ⟨by simp, fun x hx => ?_⟩
        rw [List.mem_singleton.1 hx]
        refine ⟨hp, ?_⟩
        dsimp only
        omega
    · split
      · refine ⟨by simp, fun x hx => ?_⟩
        rw [List.mem_singleton.1 hx]
        exact ⟨hp, hd⟩
      · split
        · refine ⟨by simp, fun x hx => ?_⟩
          rw [List.mem_singleton.1 hx]
          exact ⟨hp, by simp⟩
        · split
          · simp
          · split
            · exact ⟨by dsimp only; omega, hg2⟩
            · unfold movedS
              split
              · simp
              · split
                · refine ⟨by rw [List.length_append, List.length_map]; omega, fun x hx => ?_⟩
                  rcases List.mem_append.1 hx with hx | hx
                  · obtain ⟨q, _, rfl⟩ := List.mem_map.1 hx
                    have := move_len q p t
                    exact ⟨by dsimp only; omega, leafS_len h q⟩
                  · exact hg2 x hx
                · simp
theorem items_small {T : List (List UInt8 × LP)} (h : TreeOk T) (k : Int) (p t d : List UInt8) (hp : p.length ≤ 1048576) : (itemsS T k p t d).1.length ≤ 300 ∧ ∀ x ∈ (itemsS T k p t d).1, x.1.length ≤ 1048576 ∧ x.2.2.length ≤ 4096 := by
  unfold itemsS
  split
  · simp
  · rename_i h1
    split
    · simp
    · split
      · simp
      · refine plan_small h k p t d hp ?_
        by_cases h4 : 4096 < d.length
        · exfalso
          apply h1
          unfold checkX
          split
          · decide
          · split
            · decide
            · first | decide | (rw [if_pos h4]; decide)
        · omega
end Go.Proofs.YtedbjkmgfcnkeaaGreat

/- edit.gone and tenderref10.gone. -/
namespace Go.Proofs.YtedbjkmgfcnkeaaGreat
open Go.Shelf Go.RowKit Go.Lib Go.Sort

theorem reverseT_any (base : Nat) (A : Option Addr) (c : Nat) (ss : List (List UInt8)) (w : World) (hown : w.ownsRow base 9 1 (.slice A ss.length c) ss.length (ss.map stv)) (hss : ss.length ≤ 1099511627776) :
    Calls Tryz.prog 109 #[.slice A ss.length c] w fun e w' => e = .returned (.tuple #[]) ∧ w'.ownsRow base 9 1 (.slice A ss.reverse.length c) ss.reverse.length (ss.reverse.map stv) ∧ w.grownBy w' (ablk A) := by
  rcases hown.2 with ⟨hnil, h0⟩ | ⟨g, cap, cur, hv, hbase, hb, h1, h2, h3, h4⟩
  · obtain ⟨rfl, hl0, rfl⟩ : A = none ∧ ss.length = 0 ∧ c = 0 := by simpa using hnil
    obtain rfl : ss = [] := List.eq_nil_of_length_eq_zero hl0
    refine (Tryz.slices_Reverse_string_empty none 0 w).mono ?_
    rintro e w' ⟨rfl, rfl⟩
    exact ⟨rfl, by simpa using hown, World.grownBy.refl _ _⟩
  · obtain ⟨rfl, rfl⟩ : A = some ⟨g, 0, none⟩ ∧ c = cap := by simpa using hv
    have hH : Holds encStr w g 0 ss.toArray := holds_of_blockG hb (by rw [Nat.mul_one] at h4; exact h4)
    refine (Tryz.slices_Reverse_string g 0 c ss w hH (by omega)).mono ?_
    rintro e w' ⟨rfl, n, rfl⟩
    refine ⟨rfl, ?_, ?_⟩
    · have := ownsRow_sortedG (enc := encStr) (n := n) (os := #[]) (ts := ss.reverse) (ss := ss) (by simp) hbase hb h1 h2 h3
      rw [List.length_reverse]
      exact this
    · exact grownBy_sortedG (os := #[]) _
/-- a row of texts of the call's own, and one more put behind it -/
theorem noneOf (q : List UInt8) : plainL [(q, (⟨0, ⟨none, 0, []⟩⟩ : LV))] = [(q, (0, []))] := rfl
set_option maxRecDepth 100000 in
set_option maxHeartbeats 1000000 in
theorem gone_any (tb : Nat) (mo : Option Nat) (L : List (List UInt8 × LV)) (p : List UInt8) (w : World) (h : TreeAt w tb mo L) (hp : p.length ≤ 1048576) :
    Calls Tryz.prog 91 #[.pointer (some ⟨tb, 0, none⟩), .string ⟨⟨p⟩⟩] w fun e w' => ∃ (A : Option Addr) (c : Nat) (M : List (List UInt8 × LV)), e = .returned (.slice A M.length c) ∧ Hid (plainL M = goneS (plainL L) p) ∧ ItsOwn w' w.heap.size A c M ∧ Below w.heap.size w w' := by
  have hlen : L.length ≤ 128 := by have := h.plain.len; rwa [plain_len] at this
  have hb0 : Below w.heap.size w (w.alloc (.cells #[.string ⟨⟨p⟩⟩] 9)) := (by repeat (first | exact Below.refl _ _ | refine Below.alloc ?_ (by simp) _ | refine Below.setCell ?_ (by simp) _ | refine Below.drew ?_))
  have hlit : (w.alloc (.cells #[.string ⟨⟨p⟩⟩] 9)).ownsRow w.heap.size 9 1 (.slice (some ⟨w.heap.size, 0, none⟩) 1 1) 1 [stv p] := World.ownsRow_lit (base := w.heap.size) (e := 9) (size := 1) w #[stv p] 1 (Nat.le_refl _) (by simp [maxLen]) (by simp)
  have HLIT := Lib.hid hlit
  have HB := Lib.hid (treeBelow_any sortsT tb mo L p _ (h.below hb0) (by omega))
  obtain ⟨G, hG⟩ : ∃ G, G = goneS (plainL L) p := ⟨_, rfl⟩
  rw [← hG]
  have HG := Lib.hid hG
  clear h hG hlit
  go_enter Tryz.func91, Tryz.ntmps91
  go_wp2_with fail
  refine HB.out.mono ?_
  rintro e w1 ⟨⟨A1, c1, l, rfl, hl, ho⟩, hb1⟩
  have hw1 := hb0.trans (hb1.mono hb0.size)
  have hll : l.length ≤ 128 := by
    rw [hl.out]
    refine Nat.le_trans (List.length_filter_le _ _) ?_
    rw [keys_len]
    exact hlen
  have HLIT1 := Lib.hid (own_below HLIT.out hb1)
  have HR1 := Lib.hid (own_txt ho)
  have HE : Hid (G = ((p :: l).reverse).map fun q => (q, (0, []))) := Lib.hid (by rw [HG.out, hl.out]; unfold goneS; rw [keys_plain, List.reverse_cons])
  obtain ⟨i0, hi0, hz0, hz1, hz2⟩ := info_parts str_info
  clear hl ho HB HG HLIT hb1 hb0
  go_wp2_with (at_builtin; refine wpList_append_any _ rfl (.tmp 9) (.tmp 12) 79 rfl w.heap.size 9 i0 _ 1 16 Tryz.underlying79 hi0 hz0 hz1 hz2 rfl (by omega) (.slice (some ⟨w.heap.size, 0, none⟩) 1 1) 1 [stv p] rfl HLIT1.out _ _ l.length c1 (l.map stv) rfl HR1.out (st_one _) (by simp only [maxLen]; omega) (by omega) hw1.size ?_; intro v4 w4 hown4 hg4 hat4; obtain ⟨A4, c4, rfl, hjk⟩ := own_form hown4; clear hjk)
  have hw4 : Below w.heap.size w w4 := hw1.trans (grown_below hg4 hw1.size (fun g hg => (HLIT1.out.lt _ hg).1))
  obtain ⟨ss, hss⟩ : ∃ ss, ss = p :: l := ⟨_, rfl⟩
  have hsl : ss.length = 1 + l.length := by rw [hss, List.length_cons, Nat.add_comm]
  rw [← hss] at HE
  have hown5 : w4.ownsRow w.heap.size 9 1 (.slice A4 ss.length c4) ss.length (ss.map stv) := by
    rw [hsl, hss]
    exact hown4
  rw [← hsl]
  have hss2 : ss.length ≤ 129 := by omega
  clear hown4 hg4 hat4 HLIT1 HR1 hss hsl hw1
  go_wp2_with fail
  refine (reverseT_any w.heap.size A4 c4 ss w4 hown5 (by omega)).mono ?_
  rintro e w5 ⟨rfl, hown6, hg6⟩
  have hblk : ∀ g, ablk A4 = some g → w.heap.size ≤ g := fun g hg => by
    obtain ⟨A', c', e, _, _, h6, _⟩ := own_form hown5
    injection e with e _ _
    subst e
    exact (h6 g hg).1
  have hw5 : Below w.heap.size w w5 := hw4.trans (grown_below hg6 hw4.size hblk)
  have hrl : ss.length = ss.reverse.length := by simp
  rw [hrl]
  have hr2 : ss.reverse.length ≤ 129 := by omega
  clear hrl hg6 hblk hown5 hw4 hss2
  generalize ss.reverse = rs at *
  have HO := Lib.hid hown6
  have hs1 := hw5.size
  clear hown6
  go_wp2_with fail
  go_loopw [4, 18] (fun ov iv wr => ∃ (i : Nat) (A : Option Addr) (c : Nat) (M : List (List UInt8 × LV)), i ≤ rs.length ∧ iv = .int .i64 (i : Int) ∧ ov = .slice A M.length c ∧ Hid (plainL M = (rs.take i).map fun q => (q, (0, []))) ∧ M.length = i ∧ ItsOwn wr w5.heap.size A c M ∧ Below w5.heap.size w5 wr) (fun _ iv _ => rs.length - (intOf iv).toNat)
  case atStart => exact ⟨0, none, 0, [], Nat.zero_le _, rfl, rfl, rfl, rfl, ⟨World.ownsRow_nil _ _ _ _, by simp⟩, Below.refl _ _⟩
  case round =>
    obtain ⟨i, A, c, M, hi, rfl, rfl, hM, hMi, hO, hb⟩ := hrel
    by_cases hlt : i < rs.length
    · obtain ⟨b, off, hA, hbb, c0⟩ := txt_at HO.out hlt
      have c0' := cellAt hb hbb c0
      have HN : Hid (plainL (M ++ [(rs[i], (⟨0, ⟨none, 0, []⟩⟩ : LV))]) = (rs.take (i + 1)).map fun q => (q, (0, []))) := by
        show _ = _
        rw [plain_app, hM.out, List.take_succ_eq_append_getElem hlt, List.map_append]
        rfl
      subst hA
      generalize rs[i] = q at *
      simp only [stv] at c0'
      obtain ⟨y, hy⟩ : ∃ y : List UInt8 × LV, y = (q, ⟨0, ⟨none, 0, []⟩⟩) := ⟨_, rfl⟩
      rw [← hy] at HN
      have hba : Below w5.heap.size w5 (wr.alloc (.cells #[.string ⟨⟨q⟩⟩, .int .i64 0, .slice none 0 0] 51)) := hb.alloc hb.size _
      have hal : Below wr.heap.size wr (wr.alloc (.cells #[.string ⟨⟨q⟩⟩, .int .i64 0, .slice none 0 0] 51)) := (Below.refl _ wr).alloc (Nat.le_refl _) _
      have hO3 := Lib.hid (hO.below hal)
      have ra : Hid (Rd (wr.alloc (.cells #[.string ⟨⟨q⟩⟩, .int .i64 0, .slice none 0 0] 51)) (fun _ => True) 3 (some ⟨wr.heap.size, 0, none⟩) 1 (itemC y)) := (Rd.lit (w := wr) (t := 51) (size := 3) (n := 1) (xs := itemC y) (by rw [hy]; rfl) rfl rfl).mono (fun _ _ _ => trivial)
      have hlb := Lib.hid (show M.length + 1 ≤ 1099511627776 by omega)
      have hyo := Lib.hid (show OwB (wr.alloc (.cells #[.string ⟨⟨q⟩⟩, .int .i64 0, .slice none 0 0] 51)) w5.heap.size (.slice y.2.x.A y.2.x.l.length y.2.x.c) y.2.x.l by rw [hy]; exact OwB.nil _ _)
      have hMe := Lib.hid hMi
      clear hO hal hM hb c0 hMi hy
      go_wp2_with (at_builtin; refine wpList_append_item rfl (.tmp 22) (.tmp 25) (t := 22) rfl rfl rfl hO3.out.row rfl ra.out hlb.out hba.size ?_; intro A5 c5 w6 ho5 hb5 hk5)
      have hb6 := hba.trans hb5
      have hO5 := hO3.out.push hyo.out ho5 hb5 hk5
      have hl5 : (M ++ [y]).length = i + 1 := by rw [List.length_append, hMe.out]; rfl
      go_roundw
      case rel => exact ⟨i + 1, A5, c5, M ++ [y], hlt, by go_num, by simp, HN, hl5, hO5, hb6⟩
      case measure => simp [intOf]; omega
    · have e : i = rs.length := by omega
      subst e
      have HN : Hid (plainL M = G) := by
        show _ = _
        rw [hM.out, HE.out, List.take_length]
      clear hM hMi
      go_wp2_with fail
      go_ret
      exact ⟨A, c, M, rfl, HN, hO.base hs1, hw5.trans (hb.mono hs1)⟩
set_option maxRecDepth 100000 in
set_option maxHeartbeats 1000000 in
theorem goneR_any (B : Option Addr) (d : Nat) (L : List (List UInt8 × LV)) (p : List UInt8) (w : World) (h : Its w B L) (hL : L.length ≤ 128) (hp : p.length ≤ 1048576) :
    Calls Tryz.prog 99 #[.slice B L.length d, .string ⟨⟨p⟩⟩] w fun e w' => ∃ (A : Option Addr) (c : Nat) (M : List (List UInt8 × LV)), e = .returned (.slice A M.length c) ∧ Hid (plainL M = goneS (plainL L) p) ∧ ItsOwn w' w.heap.size A c M ∧ Below w.heap.size w w' := by
  have HB := Lib.hid (refBelow_any B d L p w h hp)
  obtain ⟨G, hG⟩ : ∃ G, G = goneS (plainL L) p := ⟨_, rfl⟩
  rw [← hG]
  have HG := Lib.hid hG
  clear h hG
  go_enter Tryz.func99, Tryz.ntmps99
  go_wp2_with fail
  refine HB.out.mono ?_
  rintro e w1 ⟨⟨A1, c1, l, rfl, hl, ho⟩, hb1⟩
  have hll : l.length ≤ 128 := by
    rw [hl.out]
    refine Nat.le_trans (List.length_filter_le _ _) ?_
    rw [keys_len]
    exact hL
  have HE : Hid (G = (l.reverse ++ [p]).map fun q => (q, (0, []))) := Lib.hid (by rw [HG.out, hl.out]; unfold goneS; rw [keys_plain])
  have HO := Lib.hid ho
  have hs1 := hb1.size
  clear hl ho HB HG
  go_wp2_with fail
  go_loopw [5, 7] (fun ov iv wr => ∃ (i : Nat) (A : Option Addr) (c : Nat) (M : List (List UInt8 × LV)), i ≤ l.length ∧ iv = .int .i64 ((l.length : Int) - 1 - (i : Int)) ∧ ov = .slice A M.length c ∧ Hid (plainL M = (l.reverse.take i).map fun q => (q, (0, []))) ∧ M.length = i ∧ ItsOwn wr w1.heap.size A c M ∧ Below w1.heap.size w1 wr) (fun _ iv _ => (intOf iv + 1).toNat)
  case atStart => exact ⟨0, none, 0, [], Nat.zero_le _, by go_num, rfl, rfl, rfl, ⟨World.ownsRow_nil _ _ _ _, by simp⟩, Below.refl _ _⟩
  case round =>
    obtain ⟨i, A, c, M, hi, rfl, rfl, hM, hMi, hO, hb⟩ := hrel
    by_cases hlt : i < l.length
    · have hj : l.length - 1 - i < l.length := by omega
      obtain ⟨b, off, hA, hbb, c0⟩ := txt_at HO.out hj
      have c0' := cellAt hb hbb c0
      have hge : ((l.length : Int) - 1 - (i : Int)) = ((l.length - 1 - i : Nat) : Int) := by omega
      have hrv : l[l.length - 1 - i] = l.reverse[i]'(by simpa using hlt) := by rw [List.getElem_reverse]
      have HN : Hid (plainL (M ++ [(l[l.length - 1 - i], (⟨0, ⟨none, 0, []⟩⟩ : LV))]) = (l.reverse.take (i + 1)).map fun q => (q, (0, []))) := by
        show _ = _
        rw [plain_app, hM.out, List.take_succ_eq_append_getElem (by simpa using hlt), List.map_append, hrv]
        rfl
      rw [hge]
      subst hA
      generalize l[l.length - 1 - i] = q at *
      generalize hjn : l.length - 1 - i = j at *
      simp only [stv] at c0'
      obtain ⟨y, hy⟩ : ∃ y : List UInt8 × LV, y = (q, ⟨0, ⟨none, 0, []⟩⟩) := ⟨_, rfl⟩
      rw [← hy] at HN
      have hba : Below w1.heap.size w1 (wr.alloc (.cells #[.string ⟨⟨q⟩⟩, .int .i64 0, .slice none 0 0] 51)) := hb.alloc hb.size _
      have hal : Below wr.heap.size wr (wr.alloc (.cells #[.string ⟨⟨q⟩⟩, .int .i64 0, .slice none 0 0] 51)) := (Below.refl _ wr).alloc (Nat.le_refl _) _
      have hO3 := Lib.hid (hO.below hal)
      have ra : Hid (Rd (wr.alloc (.cells #[.string ⟨⟨q⟩⟩, .int .i64 0, .slice none 0 0] 51)) (fun _ => True) 3 (some ⟨wr.heap.size, 0, none⟩) 1 (itemC y)) := (Rd.lit (w := wr) (t := 51) (size := 3) (n := 1) (xs := itemC y) (by rw [hy]; rfl) rfl rfl).mono (fun _ _ _ => trivial)
      have hlb := Lib.hid (show M.length + 1 ≤ 1099511627776 by omega)
      have hyo := Lib.hid (show OwB (wr.alloc (.cells #[.string ⟨⟨q⟩⟩, .int .i64 0, .slice none 0 0] 51)) w1.heap.size (.slice y.2.x.A y.2.x.l.length y.2.x.c) y.2.x.l by rw [hy]; exact OwB.nil _ _)
      have hMe := Lib.hid hMi
      clear hO hal hM hb c0 hMi hy hge hrv
      go_wp2_with (at_builtin; refine wpList_append_item rfl (.tmp 18) (.tmp 24) (t := 22) rfl rfl rfl hO3.out.row rfl ra.out hlb.out hba.size ?_; intro A5 c5 w6 ho5 hb5 hk5)
      have hb6 := hba.trans hb5
      have hO5 := hO3.out.push hyo.out ho5 hb5 hk5
      have hl5 : (M ++ [y]).length = i + 1 := by rw [List.length_append, hMe.out]; rfl
      go_roundw
      case rel => exact ⟨i + 1, A5, c5, M ++ [y], hlt, by go_num, by simp, HN, hl5, hO5, hb6⟩
      case measure => simp only [intOf]; omega
    · have e : i = l.length := by omega
      subst e
      have hng : ((l.length : Int) - 1 - (l.length : Int)) = -1 := by omega
      rw [hng]
      obtain ⟨y, hy⟩ : ∃ y : List UInt8 × LV, y = (p, ⟨0, ⟨none, 0, []⟩⟩) := ⟨_, rfl⟩
      have HN : Hid (plainL (M ++ [y]) = G) := by
        show _ = _
        rw [plain_app, hM.out, HE.out, hy, show l.reverse.take l.length = l.reverse from List.take_of_length_le (by simp), List.map_append]
        rfl
      have hba : Below w1.heap.size w1 (wr.alloc (.cells #[.string ⟨⟨p⟩⟩, .int .i64 0, .slice none 0 0] 51)) := hb.alloc hb.size _
      have hal : Below wr.heap.size wr (wr.alloc (.cells #[.string ⟨⟨p⟩⟩, .int .i64 0, .slice none 0 0] 51)) := (Below.refl _ wr).alloc (Nat.le_refl _) _
      have hO3 := Lib.hid (hO.below hal)
      have ra : Hid (Rd (wr.alloc (.cells #[.string ⟨⟨p⟩⟩, .int .i64 0, .slice none 0 0] 51)) (fun _ => True) 3 (some ⟨wr.heap.size, 0, none⟩) 1 (itemC y)) := (Rd.lit (w := wr) (t := 51) (size := 3) (n := 1) (xs := itemC y) (by rw [hy]; rfl) rfl rfl).mono (fun _ _ _ => trivial)
      have hlb := Lib.hid (show M.length + 1 ≤ 1099511627776 by omega)
      have hyo := Lib.hid (show OwB (wr.alloc (.cells #[.string ⟨⟨p⟩⟩, .int .i64 0, .slice none 0 0] 51)) w1.heap.size (.slice y.2.x.A y.2.x.l.length y.2.x.c) y.2.x.l by rw [hy]; exact OwB.nil _ _)
      have hMe := Lib.hid hMi
      clear hO hal hM hb hMi hy
      go_wp2_with (at_builtin; refine wpList_append_item rfl (.tmp 26) (.tmp 29) (t := 22) rfl rfl rfl hO3.out.row rfl ra.out hlb.out hba.size ?_; intro A5 c5 w6 ho5 hb5 hk5)
      have hb6 := hba.trans hb5
      have hO5 := hO3.out.push hyo.out ho5 hb5 hk5
      have e5 : M.length + 1 = (M ++ [y]).length := by simp
      go_ret
      rw [e5]
      exact ⟨A5, c5, M ++ [y], rfl, HN, hO5.base hs1, hb1.trans (hb6.mono hs1)⟩
end Go.Proofs.YtedbjkmgfcnkeaaGreat

/- Drawn regions with two operations that make memory, neither of which waits for the other: both orders, and one continuation. No program. -/
namespace Go.Proofs.YtedbjkmgfcnkeaaGreat
open Go.RowKit

section
variable {P : Program} {ops : Array Oper} {md : Region.Mode} {C : World → Prop}
def mix2 (md : Region.Mode) (ops : Array Oper) (g m i j : Nat) (ks2 : List (Nat × Bool)) : List Nat → Array Bool → Bool
  | [], listed => decide (i < m) && decide (j < m) && decide (Region.ready md ops listed = [i, j]) && decide (Region.ready md ops (listed.setIfInBounds i true) = [j]) && decide (Region.ready md ops (listed.setIfInBounds j true) = [i]) &&
      mixP md ops g m ks2 ((listed.setIfInBounds i true).setIfInBounds j true) && mixP md ops g m ks2 ((listed.setIfInBounds j true).setIfInBounds i true)
  | k :: ks, listed => decide (k < m) && (Region.ready md ops listed).contains k && Region.free md ops listed k && mix2 md ops g m i j ks2 ks (listed.setIfInBounds k true)
theorem alone_step {m g i j : Nat} {Lq : Act → World → Prop} (hsel : ∀ (j : Nat) (o : Oper) cs b, ops[j]? = some o → o.op ≠ .select cs b) (hT : TailWaitsB md ops m)
    {oi oj : Oper} (hi : ops[i]? = some oi) (hj : ops[j]? = some oj) {listed : Array Bool} {a : Act} {w : World} (inv : HeadInv md ops m listed) (him : i < m) (hjm : j < m) (hri : i ∈ Region.ready md ops listed)
    (hr : Region.ready md ops (listed.setIfInBounds i true) = [j]) {ks2 : List (Nat × Bool)} {l2 : List Oper} (hl2 : l2.map some = ks2.map (fun x => ops[x.1]?)) (hs : mixP md ops g m ks2 ((listed.setIfInBounds i true).setIfInBounds j true) = true)
    (h : wpMix P ops C Lq (false :: false :: ks2.map (·.2)) (oi :: oj :: l2) a w) : i < m ∧ wpOp P ops Qz i (wpAnyT P md ops C m (fun listed' a' w' => Region.seqB md ops g m listed' = true ∧ Lq a' w') (l2.length + 1) (listed.setIfInBounds i true)) a w := by
  refine ⟨him, ?_⟩
  have rec_ : ∀ a' w', wpMix P ops C Lq (false :: ks2.map (·.2)) (oj :: l2) a' w' → wpAnyT P md ops C m (fun listed' a' w' => Region.seqB md ops g m listed' = true ∧ Lq a' w') (l2.length + 1) (listed.setIfInBounds i true) a' w' := fun a' w' h2 =>
    mix_perm hsel hT ((j, false) :: ks2) (oj :: l2) _ a' w' (by simp [hj, hl2]) (inv.set hri him) (by simp [mixP, hjm, hr, hs]) h2
  obtain ⟨_, h'⟩ := h
  unfold wpOp
  simp only [hi]
  rcases h' with ⟨hw, h'⟩ | ⟨hw, h'⟩
  · simp only [hw, if_true]
    exact .inl (Oper.wp_mono rec_ h')
  · simp only [hw, Bool.false_eq_true, if_false]
    exact rec_ _ _ h'
theorem mix_two {m g i j : Nat} {Lq : Act → World → Prop} (hsel : ∀ (j : Nat) (o : Oper) cs b, ops[j]? = some o → o.op ≠ .select cs b) (hT : TailWaitsB md ops m)
    {oi oj : Oper} (hi : ops[i]? = some oi) (hj : ops[j]? = some oj) {ks2 : List (Nat × Bool)} {l2 : List Oper} (hl2 : l2.map some = ks2.map (fun x => ops[x.1]?)) :
    ∀ (ks : List Nat) (l : List Oper) (listed : Array Bool) (a : Act) (w : World), l.map some = ks.map (fun x => ops[x]?) → HeadInv md ops m listed →
    mix2 md ops g m i j ks2 ks listed = true → wpMix P ops C (fun a' w' => MixW P ops C Lq (false :: false :: ks2.map (·.2)) (oi :: oj :: l2) a' w' ∧ MixW P ops C Lq (false :: false :: ks2.map (·.2)) (oj :: oi :: l2) a' w') (ks.map fun _ => true) l a w →
    wpAnyT P md ops C m (fun listed' a' w' => Region.seqB md ops g m listed' = true ∧ Lq a' w') (l.length + (l2.length + 2)) listed a w
  | [], [], listed, a, w, _, inv, hB, h => by
    simp only [mix2, Bool.and_eq_true, decide_eq_true_eq] at hB
    obtain ⟨⟨⟨⟨⟨⟨him, hjm⟩, hr⟩, hri⟩, hrj⟩, hs1⟩, hs2⟩ := hB
    obtain ⟨hc, h1, h2⟩ := h
    rw [List.length_nil, Nat.zero_add]
    refine ⟨hc, fun h => (by rw [hr] at h; cases h), fun x hx => ?_⟩
    have hx' := hx
    rw [hr] at hx
    rcases List.mem_cons.1 hx with rfl | hx
    · exact alone_step hsel hT hi hj inv him hjm hx' hri hl2 hs1 h1.go
    · obtain rfl := List.mem_singleton.1 hx
      exact alone_step hsel hT hj hi inv hjm him hx' hrj hl2 hs2 h2.go
  | k :: ks, o :: l, listed, a, w, hl, inv, hB, h => by
    simp only [List.map_cons, List.cons.injEq] at hl
    have h0 : ops[k]? = some o := hl.1.symm
    simp only [mix2, Bool.and_eq_true, decide_eq_true_eq] at hB
    obtain ⟨⟨⟨hkm, hr⟩, hf⟩, hB'⟩ := hB
    have hr' : k ∈ Region.ready md ops listed := by simpa using hr
    obtain ⟨v, hy, h'⟩ := h
    have := wpAnyT_first h0 hkm hsel hT _ listed a w inv (Region.free_spec h0 hf) hr' hy (mix_two hsel hT hi hj hl2 ks l _ _ w hl.2 (inv.set hr' hkm) hB' h')
    rwa [show l.length + (l2.length + 2) + 1 = (o :: l).length + (l2.length + 2) by simp only [List.length_cons]; omega] at this
  | [], _ :: _, _, _, _, hl, _, _, _ => by simp at hl
  | _ :: _, [], _, _, _, hl, _, _, _ => by simp at hl
theorem filterMap_someN (l : List Oper) : ∀ (ks : List Nat), ks.all (fun x => decide (x < l.length)) = true → (ks.filterMap fun x => l[x]?).map some = ks.map (fun x => l.toArray[x]?)
  | [], _ => rfl
  | x :: ks, h => by
    simp only [List.all_cons, Bool.and_eq_true, decide_eq_true_eq] at h
    have ih := filterMap_someN l ks h.2
    rw [List.filterMap_cons, List.getElem?_eq_getElem h.1]
    simp only [List.map_cons]
    rw [ih, show l.toArray[x]? = some l[x] by simp [h.1]]
/-- operations that tell, in an order of ours; two that are alone, in either order; more, by kinds; the rest one behind the other -/
theorem wp_region_2 {id : Nat} {Q : Exit → Act → World → Prop} {a : Act} {w : World} {l : List Oper} (ks : List Nat) (i j : Nat) (ks2 : List (Nat × Bool)) (n : Nat) (C : World → Prop) {oi oj : Oper} (hi : l.toArray[i]? = some oi) (hj : l.toArray[j]? = some oj) (hn : n = ks.length + (ks2.length + 2)) (hm : P.follows .mixedOrders = true)
    (hB : (ks.all (fun x => decide (x < l.length)) && ks2.all (fun x => decide (x.1 < l.length)) && tailOkB l.toArray n && mix2 .any l.toArray (l.toArray.size - n) n i j ks2 ks (Array.replicate l.toArray.size false)) = true)
    (h : MixW P l.toArray C (fun a' w' => MixW P l.toArray C (fun a' w' => wpList P l.toArray Q (l.drop n) a' w') (false :: false :: ks2.map (·.2)) (oi :: oj :: ks2.filterMap fun x => l[x.1]?) a' w' ∧ MixW P l.toArray C (fun a' w' => wpList P l.toArray Q (l.drop n) a' w') (false :: false :: ks2.map (·.2)) (oj :: oi :: ks2.filterMap fun x => l[x.1]?) a' w') (ks.map fun _ => true) (ks.filterMap fun x => l[x]?) a w.drew) : (Code.region id l.toArray true).wp P Q a w := by
  rw [Bool.and_eq_true, Bool.and_eq_true, Bool.and_eq_true] at hB
  obtain ⟨⟨⟨hall, hall2⟩, hok⟩, hlex⟩ := hB
  obtain ⟨hsel, hnl, hT⟩ := tailOkB_spec hok
  have hfm := filterMap_someN l ks hall
  have hfm2 := filterMap_some l ks2 hall2
  have hfl : (ks.filterMap fun x => l[x]?).length = ks.length := by simpa using congrArg List.length hfm
  have hfl2 : (ks2.filterMap fun x => l[x.1]?).length = ks2.length := by simpa using congrArg List.length hfm2
  have hdl : (l.drop n).length = l.toArray.size - n := by simp
  have H := mix_two (P := P) (md := .any) (m := n) (g := l.toArray.size - n) (Region.noSelect_spec hsel) hT hi hj hfm2 ks _ _ a w.drew hfm (inv_new _) hlex h.go
  refine wp_region_any hm ?_
  have := wpAny_of_T (Q := Q) (g := l.toArray.size - n) (fun listed a' w' hL => by
    have := wpAny_of_seq (md := .any) (Q' := Q) (l.drop n) n listed a' w' (fun j => by simp [List.getElem?_drop]) (by rw [hdl]; exact hL.1) hL.2
    rwa [hdl] at this) _ _ _ _ H
  rw [hfl, hfl2, show ks.length + (ks2.length + 2) + (l.toArray.size - n) = l.toArray.size by simp at hnl ⊢; omega] at this
  exact this
/-- the same, with the operations picked out of the region's row -/
theorem wp_region_two {id : Nat} {Q : Exit → Act → World → Prop} {a : Act} {w : World} {l : List Oper} (ks : List Nat) (i j : Nat) (ks2 : List (Nat × Bool)) (n : Nat) (C : World → Prop) (hm : P.follows .mixedOrders = true) (hn : n = ks.length + (ks2.length + 2))
    (hB : (decide (i < l.length) && decide (j < l.length) && (ks.all (fun x => decide (x < l.length)) && ks2.all (fun x => decide (x.1 < l.length)) && tailOkB l.toArray n && mix2 .any l.toArray (l.toArray.size - n) n i j ks2 ks (Array.replicate l.toArray.size false))) = true)
    (h : MixW P l.toArray C (fun a' w' => MixW P l.toArray C (fun a' w' => wpList P l.toArray Q (l.drop n) a' w') (false :: false :: ks2.map (·.2)) (([i, j] ++ ks2.map (·.1)).filterMap fun x => l[x]?) a' w' ∧ MixW P l.toArray C (fun a' w' => wpList P l.toArray Q (l.drop n) a' w') (false :: false :: ks2.map (·.2)) (([j, i] ++ ks2.map (·.1)).filterMap fun x => l[x]?) a' w') (ks.map fun _ => true) (ks.filterMap fun x => l[x]?) a w.drew) : (Code.region id l.toArray true).wp P Q a w := by
  rw [Bool.and_eq_true, Bool.and_eq_true, decide_eq_true_eq, decide_eq_true_eq] at hB
  obtain ⟨⟨hi, hj⟩, hB⟩ := hB
  refine wp_region_2 ks i j ks2 n C (oi := l[i]) (oj := l[j]) (by simp [hi]) (by simp [hj]) hn hm hB ?_
  have e : (ks2.map (·.1)).filterMap (fun x => l[x]?) = ks2.filterMap fun x => l[x.1]? := by rw [List.filterMap_map]; rfl
  simpa [List.filterMap_cons, hi, hj, e] using h
theorem wpMix_mono {E E' : Act → World → Prop} (hh : ∀ a' w', E a' w' → E' a' w') : ∀ (ks : List Bool) (l : List Oper) (a : Act) (w : World), wpMix P ops C E ks l a w → wpMix P ops C E' ks l a w
  | [], [], _, _, h => ⟨h.1, hh _ _ h.2⟩
  | true :: ks, _ :: l, _, _, ⟨v, hy, h⟩ => ⟨v, hy, wpMix_mono hh ks l _ _ h⟩
  | false :: ks, _ :: l, _, _, h => ⟨h.1, h.2.imp (fun h => ⟨h.1, Oper.wp_mono (fun a' w' => wpMix_mono hh ks l a' w') h.2⟩) (fun h => ⟨h.1, wpMix_mono hh ks l _ _ h.2⟩)⟩
  | [], _ :: _, _, _, h => h.elim
  | true :: _, [], _, _, h => h.elim
  | false :: _, [], _, _, h => h.elim
theorem wpMix_two {E : Act → World → Prop} {ks : List Bool} {l : List Oper} {o o' : Oper} {a : Act} {w : World} (h : wpMix P ops C (fun a' w' => wpMix P ops C E ks l a' w') [false, false] [o, o'] a w) : wpMix P ops C E (false :: false :: ks) (o :: o' :: l) a w := by
  have m1 : ∀ a' w', wpMix P ops C (fun a' w' => wpMix P ops C E ks l a' w') [false] [o'] a' w' → wpMix P ops C E (false :: ks) (o' :: l) a' w' := fun a' w' h => ⟨h.1, h.2.imp (fun h => ⟨h.1, Oper.wp_mono (fun _ _ h => h.2) h.2⟩) (fun h => ⟨h.1, h.2.2⟩)⟩
  exact ⟨h.1, h.2.imp (fun h => ⟨h.1, Oper.wp_mono m1 h.2⟩) (fun h => ⟨h.1, m1 _ _ h.2⟩)⟩
/-- both orders end in one: J tells what both have made, and the world -/
theorem two_join {E : Act → World → Prop} {ks : List Bool} {l : List Oper} {oi oj : Oper} {a : Act} {w : World} (J : Value → Value → World → Prop) (hc : ∀ vi vj, (a.put oj.dst vj).put oi.dst vi = (a.put oi.dst vi).put oj.dst vj)
    (h1 : MixW P ops C (fun a' w' => ∃ vi vj, a' = (a.put oi.dst vi).put oj.dst vj ∧ J vi vj w') [false, false] [oi, oj] a w)
    (h2 : MixW P ops C (fun a' w' => ∃ vi vj, a' = (a.put oj.dst vj).put oi.dst vi ∧ J vi vj w') [false, false] [oj, oi] a w)
    (hE : ∀ vi vj w', J vi vj w' → MixW P ops C E ks l ((a.put oi.dst vi).put oj.dst vj) w') : MixW P ops C E (false :: false :: ks) (oi :: oj :: l) a w ∧ MixW P ops C E (false :: false :: ks) (oj :: oi :: l) a w := by
  refine ⟨⟨wpMix_two (wpMix_mono ?_ _ _ _ _ h1.go)⟩, ⟨wpMix_two (wpMix_mono ?_ _ _ _ _ h2.go)⟩⟩
  · rintro a' w' ⟨vi, vj, rfl, hj⟩
    exact (hE _ _ _ hj).go
  · rintro a' w' ⟨vi, vj, rfl, hj⟩
    rw [hc]
    exact (hE _ _ _ hj).go
/-- alone, by its own law -/
theorem mx_wp {E : Act → World → Prop} {ks : List Bool} {o : Oper} {rest : List Oper} {a : Act} {w : World} (hc : C w) (hw : Region.wanted o (yielded ops a.tmps) = true) (h : o.wp P a w (fun a' w' => MixW P ops C E ks rest a' w') Qz) : MixW P ops C E (false :: ks) (o :: rest) a w :=
  ⟨hc, .inl ⟨hw, Oper.wp_mono (fun _ _ h => h.go) h⟩⟩
end
end Go.Proofs.YtedbjkmgfcnkeaaGreat

/- edit.moved. -/
namespace Go.Proofs.YtedbjkmgfcnkeaaGreat
open Go.RowKit

theorem ItsOwn.app {w w' : World} {base : Nat} {A A' A2 : Option Addr} {c c' c2 : Nat} {M N : List (List UInt8 × LV)} (h : ItsOwn w base A c M) (h2 : ItsOwn w base A2 c2 N) (hr : OwI w' base A' c' (M ++ N)) (hb : Below base w w')
    (hk : ∀ k, k < w.heap.size → (Value.slice A M.length c).ownBlock ≠ some k → w'.heap[k]? = w.heap[k]?) : ItsOwn w' base A' c' (M ++ N) := by
  have hf : Fr (fun k => (Value.slice A M.length c).ownBlock = some k) w w' := ⟨hb.os, hb.tape, hb.output, hb.size, hk⟩
  refine ⟨hr, fun x hx => ?_⟩
  rcases List.mem_append.1 hx with hx | hx
  · exact own_fr (h.byt x hx) hf (own_apart (h.byt x hx) h.row (by decide))
  · exact own_fr (h2.byt x hx) hf (own_apart (h2.byt x hx) h.row (by decide))
/-- append of items -/
theorem wpList_append_items {w : World} {ops : Array Oper} {rest : List Oper} {o : Oper} {a : Act} {Q : Exit → Act → World → Prop} (hgd : o.guard = none) (s x : Operand) {t : TypeId} (hu : Tryz.prog.underlying t = some (.slice 51))
    (ho : o.op = .call { callee := .builtin .append, args := #[s, x], argTypes := #[t, t] })
    {base : Nat} {A A2 : Option Addr} {c c2 : Nat} {L N : List (List UInt8 × LV)} (hs : a.eval s = .slice A L.length c) (hown : ItsOwn w base A c L) (hx : a.eval x = .slice A2 N.length c2) (hr : ItsOwn w base A2 c2 N)
    (hsum : L.length + N.length ≤ 1099511627776) (hbase : base ≤ w.heap.size)
    (h : ∀ (A' : Option Addr) (c' : Nat) (w' : World), ItsOwn w' base A' c' (L ++ N) → Below base w w' → wpList Tryz.prog ops Q rest (a.put o.dst (.slice A' (L.length + N.length) c')) w') : wpList Tryz.prog ops Q (o :: rest) a w := by
  obtain ⟨i0, hi0, hz0, hz1, hz2⟩ := info_parts item_info
  refine wpList_append_any w hgd s x _ ho base 51 i0 _ 3 48 hu hi0 hz0 hz1 hz2 rfl (by omega) (.slice A L.length c) L.length (L.flatMap itemC) hs hown.row _ A2 N.length c2 (N.flatMap itemC) hx (Rd.of_own hr.row (fun _ _ _ => trivial)) (fun u hu => item_one N u hu) (by simp only [maxLen]; omega) (by omega) hbase ?_
  intro v' w' h1 h2 h3
  obtain ⟨A', c', rfl, _⟩ := own_form h1
  have hb := grown_below h2 hbase (fun g e => (hown.row.lt g e).1)
  refine h A' c' w' (hown.app hr ?_ hb (fun k hk hne => h2.block k hk (fun e => hne e.symm))) hb
  unfold OwI
  rw [List.length_append, List.flatMap_append]
  exact h1

set_option maxRecDepth 100000 in
set_option maxHeartbeats 4000000 in
theorem moved_any (tb : Nat) (mo : Option Nat) (L : List (List UInt8 × LV)) (k : Int) (p t : List UInt8) (dA : Option Addr) (dn dc : Nat) (w : World) (h : TreeAt w tb mo L) (hp : p.length ≤ 1048576) (ht : t.length ≤ 1048576) :
    Calls Tryz.prog 92 #[.pointer (some ⟨tb, 0, none⟩), .agg #[.int .i64 k, .string ⟨⟨p⟩⟩, .string ⟨⟨t⟩⟩, .slice dA dn dc]] w fun e w' => ∃ (A : Option Addr) (c : Nat) (M : List (List UInt8 × LV)), e = .returned (.tuple #[.slice A M.length c, .int .i64 (movedS (plainL L) p t).2]) ∧ Hid (plainL M = (movedS (plainL L) p t).1) ∧ ItsOwn w' w.heap.size A c M ∧ Below w.heap.size w w' := by
  have hok := h.plain
  obtain ⟨T, hT⟩ : ∃ T, T = plainL L := ⟨_, rfl⟩
  have hTT : Hid (plainL L = T) := Lib.hid hT.symm
  rw [← hT] at hok ⊢
  obtain ⟨R, hR⟩ : ∃ R, R = movedS T p t := ⟨_, rfl⟩
  rw [← hR]
  have HR := Lib.hid hR
  have HT := Lib.hid h
  have HOK := Lib.hid hok
  have hw0 : Below w.heap.size w (w.alloc (.cells #[.int .i64 k, .string ⟨⟨p⟩⟩, .string ⟨⟨t⟩⟩, .slice dA dn dc] 35)) := (by repeat (first | exact Below.refl _ _ | refine Below.alloc ?_ (by simp) _ | refine Below.setCell ?_ (by simp) _ | refine Below.drew ?_))
  have x0 := Blk.new w 35 #[.int .i64 k, .string ⟨⟨p⟩⟩, .string ⟨⟨t⟩⟩, .slice dA dn dc]
  have q2 := x0.cell 2
  simp only [List.getElem?_toArray, List.getElem?_cons_zero, List.getElem?_cons_succ] at q2
  have hfld := fun (k : Int) (v : Value) (w : World) => leaf_kind k v w
  clear h hT hR hok
  go_enter Tryz.func92, Tryz.ntmps92
  go_wp2_with fail
  refine (treeGetP (HT.out.below hw0) hTT t ht).mono ?_
  rintro e w1 ⟨⟨A1, c1, l1, rfl, _, _⟩, hb1⟩
  have x1 := x0.below hb1
  have hw1 := hw0.trans (hb1.mono hw0.size)
  clear q2 hb1 x0 hw0
  by_cases hk : kindL (getR T t) = 0
  · have HR1 : Hid (R = if (treeS T p).all (fun q => (moveT q p t).2) = true then ((treeS T p).map (fun q => ((moveT q p t).1, leafS T q)) ++ goneS T p, 0) else ([], 23)) := by
      show _ = _
      rw [HR.out]; unfold movedS; rw [if_neg (by simpa using hk)]
    rw [hk]
    clear HR hk
    have HB := Lib.hid (fun W (hW : Below w1.heap.size w1 W) => treeBelow_any sortsT tb mo L p W ((HT.out.below hw1).below hW) (by omega))
    obtain ⟨S, hS⟩ : ∃ S, S = treeS T p := ⟨_, rfl⟩
    have HSL : Hid (∀ l2, Hid (l2 = (keysR L).filter fun q => underB q p) → Hid (p :: l2 = S)) := Lib.hid (fun l2 h2 => Lib.hid (by rw [h2.out, hS, ← hTT.out]; unfold treeS; rw [keys_plain]))
    have hSl : S.length ≤ 129 := by rw [hS]; exact tree_len HOK.out p
    rw [← hS] at HR1
    have HS := Lib.hid hS
    clear hS
    go_wp2_with fail
    refine wp_region_two [0, 1, 3, 4, 5, 9] 2 6 [(7, false), (8, true)] 10 (fun W => Below w1.heap.size w1 W) (by kernel_rfl) rfl (by kernel_rfl) ?_
    simp only [List.map_cons, List.map_nil, List.filterMap_cons, List.filterMap_nil, List.getElem?_cons_zero, List.getElem?_cons_succ, List.cons_append, List.nil_append, List.drop_succ_cons, List.drop_zero]
    refine mx_val (by kernel_rfl) ⟨_, (by (intro w' hC; clear hC; (try go_simp); (try with_reducible rfl); done)), _, (by (simp only [Act.put, List.setIfInBounds_toArray, List.set_cons_zero, List.set_cons_succ]; rfl)), ?_⟩
    refine mx_val (by kernel_rfl) ⟨_, (by (intro w' hC; (have q := (x1.below hC).cell 1; simp only [List.getElem?_toArray, List.getElem?_cons_zero, List.getElem?_cons_succ] at q); clear hC; (try go_simp); (try with_reducible rfl); done)), _, (by (simp only [Act.put, List.setIfInBounds_toArray, List.set_cons_zero, List.set_cons_succ]; rfl)), ?_⟩
    refine mx_move _ (by kernel_rfl) rfl ⟨_, (by ((try simp [go_sem]); (try rfl); done)), _, (by (simp only [Act.put, List.setIfInBounds_toArray, List.set_cons_zero, List.set_cons_succ]; rfl)), ?_⟩
    refine mx_val (by kernel_rfl) ⟨_, (by (intro w' hC; clear hC; (try go_simp); (try with_reducible rfl); done)), _, (by (simp only [Act.put, List.setIfInBounds_toArray, List.set_cons_zero, List.set_cons_succ]; rfl)), ?_⟩
    refine mx_val (by kernel_rfl) ⟨_, (by (intro w' hC; (have q := (x1.below hC).cell 1; simp only [List.getElem?_toArray, List.getElem?_cons_zero, List.getElem?_cons_succ] at q); clear hC; (try go_simp); (try with_reducible rfl); done)), _, (by (simp only [Act.put, List.setIfInBounds_toArray, List.set_cons_zero, List.set_cons_succ]; rfl)), ?_⟩
    refine mx_move _ (by kernel_rfl) rfl ⟨_, (by ((try simp [go_sem]); (try rfl); done)), _, (by (simp only [Act.put, List.setIfInBounds_toArray, List.set_cons_zero, List.set_cons_succ]; rfl)), ?_⟩
    refine mx_end ((Below.refl _ _).drew) ?_
    refine two_join (fun vi vj W => ∃ (g : Nat) (A2 : Option Addr) (c2 : Nat) (l : List (List UInt8)), vi = .slice (some ⟨g, 0, none⟩) 1 1 ∧ vj = .slice A2 l.length c2 ∧ Hid (p :: l = S) ∧ Hid (W.ownsRow w1.heap.size 9 1 (.slice (some ⟨g, 0, none⟩) 1 1) 1 [stv p]) ∧ Hid (Rd W (fun _ => True) 1 A2 l.length (l.map stv)) ∧ Below w1.heap.size w1 W) (fun vi vj => (by simp only [Act.put, List.setIfInBounds_toArray, List.set_cons_zero, List.set_cons_succ])) ?_ ?_ ?_
    · refine mx_alone ((Below.refl _ _).drew) (by kernel_rfl) ⟨_, _, (by (go_simp; first | done | exact ⟨rfl, rfl⟩)), _, (by (simp only [Act.put, List.setIfInBounds_toArray, List.set_cons_zero, List.set_cons_succ]; rfl)), ?_⟩
      refine mx_call ((Below.refl _ _).drew.alloc (Nat.le_refl _) _) (by kernel_rfl) ?_ (HB.out _ ((Below.refl _ _).drew.alloc (Nat.le_refl _) _)) ?_
      · (go_simp; done)
      rintro e w2 ⟨⟨A2, c2, l2, rfl, hl2, ho2⟩, hb2⟩
      have hX := ((Below.refl w1.heap.size w1).alloc (Nat.le_refl _) (.cells #[.string ⟨⟨p⟩⟩] 9)).drew
      have hlow : Below w1.heap.size w1 w2 := hX.trans (hb2.mono hX.size)
      refine ⟨_, rfl, _, (by (simp only [Act.put, List.setIfInBounds_toArray, List.set_cons_zero, List.set_cons_succ]; rfl)), ?_⟩
      refine mx_end (hlow) ⟨.slice (some ⟨w1.heap.size, 0, none⟩) 1 1, .slice A2 l2.length c2, (by simp only [Act.put, List.setIfInBounds_toArray, List.set_cons_zero, List.set_cons_succ]), w1.heap.size, A2, c2, l2, rfl, rfl, (HSL.out l2 hl2), Lib.hid (own_below (show ((w1.alloc (.cells #[.string ⟨⟨p⟩⟩] 9)).drew).ownsRow w1.heap.size 9 1 (.slice (some ⟨w1.heap.size, 0, none⟩) 1 1) 1 [stv p] from World.ownsRow_lit (base := w1.heap.size) (e := 9) (size := 1) w1 #[stv p] 1 (Nat.le_refl _) (by simp [maxLen]) (by simp)) hb2), Lib.hid (own_txt ho2), hlow⟩
    · refine mx_call ((Below.refl _ _).drew) (by kernel_rfl) ?_ (HB.out _ (Below.refl _ _).drew) ?_
      · (go_simp; done)
      rintro e w2 ⟨⟨A2, c2, l2, rfl, hl2, ho2⟩, hb2⟩
      have hlow : Below w1.heap.size w1 w2 := (Below.refl _ _).drew.trans (hb2.mono (Nat.le_refl _))
      refine ⟨_, rfl, _, (by (simp only [Act.put, List.setIfInBounds_toArray, List.set_cons_zero, List.set_cons_succ]; rfl)), ?_⟩
      refine mx_alone (hlow) (by kernel_rfl) ⟨_, _, (by (go_simp; first | done | exact ⟨rfl, rfl⟩)), _, (by (simp only [Act.put, List.setIfInBounds_toArray, List.set_cons_zero, List.set_cons_succ]; rfl)), ?_⟩
      refine mx_end (hlow.alloc hlow.size _) ⟨.slice (some ⟨w2.heap.size, 0, none⟩) 1 1, .slice A2 l2.length c2, (by simp only [Act.put, List.setIfInBounds_toArray, List.set_cons_zero, List.set_cons_succ]), w2.heap.size, A2, c2, l2, rfl, rfl, (HSL.out l2 hl2), Lib.hid (World.ownsRow_lit (base := w1.heap.size) (e := 9) (size := 1) w2 #[stv p] 1 hlow.size (by simp [maxLen]) (by simp)), Lib.hid ((own_txt ho2).alloc _), hlow.alloc hlow.size _⟩
    rintro vi vj w4 ⟨g, A2, c2, l, rfl, rfl, hsl, hlit, hrd, hb4⟩
    have hw4 := hw1.trans (hb4.mono hw1.size)
    have hll : S.length = 1 + l.length := by rw [← hsl.out, List.length_cons, Nat.add_comm]
    have hl128 : l.length ≤ 128 := by omega
    simp only [Act.put, List.setIfInBounds_toArray, List.set_cons_zero, List.set_cons_succ]
    obtain ⟨i0, hi0, hz0, hz1, hz2⟩ := info_parts str_info
    refine mx_wp hb4 (by kernel_rfl) (wp_append_any _ (.tmp 18) (.tmp 22) 79 rfl w1.heap.size 9 i0 _ 1 16 Tryz.underlying79 hi0 hz0 hz1 hz2 rfl (by omega) (.slice (some ⟨g, 0, none⟩) 1 1) 1 [stv p] rfl hlit.out _ A2 l.length c2 (l.map stv) rfl hrd.out (st_one _) (by simp only [maxLen]; omega) (by omega) hb4.size ?_)
    intro v5 w5 hown5 hg5 hat5
    obtain ⟨A5, c5, rfl, hjk⟩ := own_form hown5
    clear hjk hat5
    have hb5 : Below w1.heap.size w1 w5 := hb4.trans (grown_below hg5 hb4.size (fun g hg => (hlit.out.lt _ hg).1))
    have hown6 : w5.ownsRow w1.heap.size 9 1 (.slice A5 S.length c5) S.length (S.map stv) := by
      rw [hll, ← hsl.out]
      exact hown5
    rw [← hll]
    have HO := Lib.hid hown6
    clear hown5 hown6 hg5 hlit hrd hsl hll hl128 hb4 hw4
    simp only [Act.put, List.setIfInBounds_toArray, List.set_cons_zero, List.set_cons_succ]
    refine mx_val (by kernel_rfl) ⟨_, (by (intro w' hC; clear hC; (try go_simp); (try with_reducible rfl); done)), _, (by (simp only [Act.put, List.setIfInBounds_toArray, List.set_cons_zero, List.set_cons_succ]; rfl)), ?_⟩
    refine mx_end hb5 ?_
    have hw5 := hw1.trans (hb5.mono hw1.size)
    have x5 := x1.below hb5
    have HT5 := Lib.hid (HT.out.below hw5)
    have HS2 := HS
    clear hb5 HB HSL x1 hw1 hi0 hz0 hz1 hz2
    go_wp2_with fail
    go_loopw [4, 25] (fun ov iv wr => ∃ (i : Nat) (A : Option Addr) (c : Nat) (M : List (List UInt8 × LV)), i ≤ S.length ∧ iv = .int .i64 (i : Int) ∧ ov = .slice A M.length c ∧ Hid (plainL M = (S.take i).map fun q => ((moveT q p t).1, leafS T q)) ∧ Hid ((S.take i).all (fun q => (moveT q p t).2) = true) ∧ M.length = i ∧ ItsOwn wr w5.heap.size A c M ∧ Below w5.heap.size w5 wr) (fun _ iv _ => S.length - (intOf iv).toNat)
    case atStart => exact ⟨0, none, 0, [], Nat.zero_le _, rfl, rfl, rfl, rfl, rfl, ⟨World.ownsRow_nil _ _ _ _, by simp⟩, Below.refl _ _⟩
    case round =>
      obtain ⟨i, A, c, M, hi, rfl, rfl, hM, hall, hMi, hO, hb⟩ := hrel
      have hMe := Lib.hid hMi
      clear hMi
      have xr := x5.below hb
      have q1 := xr.cell 1
      have q2 := xr.cell 2
      simp only [List.getElem?_toArray, List.getElem?_cons_zero, List.getElem?_cons_succ] at q1 q2
      by_cases hlt : i < S.length
      · obtain ⟨b, off, hA, hbb, c0⟩ := txt_at HO.out hlt
        have c0' := cellAt hb hbb c0
        have hql : S[i].length ≤ 1048576 := by
          have hm := List.getElem_mem hlt
          have hm2 : S[i] = p ∨ S[i] ∈ keysR T := by
            have : S[i] ∈ treeS T p := by rw [← HS.out]; exact hm
            unfold treeS at this
            rcases List.mem_cons.1 this with e | e
            · exact .inl e
            · exact .inr (List.mem_filter.1 e).1
          rcases hm2 with e | e
          · rw [e]; exact hp
          · obtain ⟨y, hy, e2⟩ := List.mem_map.1 e
            rw [← e2]
            have := goodB_len (HOK.out.good y hy).1
            omega
        have hts := List.take_succ_eq_append_getElem hlt
        have hnn : (moveT S[i] p t).2 = false → Hid (R = ([], 23)) := fun e => Lib.hid (by
          rw [HR1.out, if_neg]
          intro ha
          have := List.all_eq_true.1 ha _ (List.getElem_mem hlt)
          rw [e] at this
          cases this)
        subst hA
        obtain ⟨q, hq⟩ : ∃ q, q = S[i] := ⟨_, rfl⟩
        rw [← hq] at c0' hql hts hnn
        simp only [stv] at c0'
        have HMV := Lib.hid (fun W => move_any ⟨⟨q⟩⟩ ⟨⟨p⟩⟩ ⟨⟨t⟩⟩ (by show q.length ≤ _; omega) (by show p.length ≤ _; omega) (by show t.length ≤ _; omega) W)
        have HTS := Lib.hid hts
        clear hts c0 hq
        go_wp2_with fail
        refine (HMV.out wr).mono ?_
        rintro e w6 ⟨s, b6, rfl, hs6, hb6⟩
        have hs61 : tl s = (moveT q p t).1 := congrArg Prod.fst hs6.out
        have hs62 : b6 = (moveT q p t).2 := congrArg Prod.snd hs6.out
        have hb56 := hb.trans (hb6.mono hb.size)
        have hO6 := hO.below hb6
        clear q1 q2 xr hs6 HMV c0' hbb hO hb6
        obtain ⟨⟨sl⟩⟩ := s
        replace hs61 : sl = (moveT q p t).1 := hs61
        rcases b6 with _ | _
        · have hRR := hnn hs62.symm
          obtain rfl := hRR.out
          clear hRR hs62
          go_wp2_with fail
          go_ret2
          exact ⟨none, 0, [], rfl, rfl, ⟨World.ownsRow_nil _ _ _ _, by simp⟩, hw5.trans (hb56.mono hw5.size)⟩
        · have HG := Lib.hid (treeGetP (HT5.out.below hb56) hTT q hql)
          have HAL : Hid ((S.take (i + 1)).all (fun q => (moveT q p t).2) = true) := Lib.hid (by
            rw [HTS.out, List.all_append, hall.out, List.all_cons, List.all_nil, ← hs62]; rfl)
          have HS1 := Lib.hid hs61
          clear hnn hs62 hs61
          go_wp2_with fail
          refine HG.out.mono ?_
          rintro e w7 ⟨⟨A7, c7, l7, rfl, hl7, ho7⟩, hb7⟩
          obtain ⟨y, hy⟩ : ∃ y : List UInt8 × LV, y = (sl, ⟨kindL (getR T q), ⟨A7, c7, l7⟩⟩) := ⟨_, rfl⟩
          have hb57 := hb56.trans (hb7.mono hb56.size)
          have ho8 : OwB w7 w5.heap.size (.slice y.2.x.A y.2.x.l.length y.2.x.c) y.2.x.l := by
            rw [hy]
            exact own_base ho7 (fun g hg => Nat.le_trans hb56.size (ho7.lt g hg).1)
          have hpy : plainL [y] = [((moveT q p t).1, leafS T q)] := by
            rw [hy]
            show [(sl, (kindL (getR T q), l7))] = _
            rw [hl7.out, HS1.out]
            rfl
          have HN : Hid (plainL (M ++ [y]) = (S.take (i + 1)).map fun q => ((moveT q p t).1, leafS T q)) := by
            show _ = _
            rw [plain_app, hpy, hM.out, HTS.out, List.map_append]
            rfl
          have hba : Below w5.heap.size w5 (w7.alloc (.cells #[.string ⟨⟨sl⟩⟩, .int .i64 (kindL (getR T q)), .slice A7 l7.length c7] 51)) := hb57.alloc hb57.size _
          have hal : Below w7.heap.size w7 (w7.alloc (.cells #[.string ⟨⟨sl⟩⟩, .int .i64 (kindL (getR T q)), .slice A7 l7.length c7] 51)) := (Below.refl _ w7).alloc (Nat.le_refl _) _
          have hO3 := Lib.hid ((hO6.below hb7).below hal)
          have ho4 := Lib.hid (own_below ho8 hal)
          have ra : Hid (Rd (w7.alloc (.cells #[.string ⟨⟨sl⟩⟩, .int .i64 (kindL (getR T q)), .slice A7 l7.length c7] 51)) (fun _ => True) 3 (some ⟨w7.heap.size, 0, none⟩) 1 (itemC y)) := (Rd.lit (w := w7) (t := 51) (size := 3) (n := 1) (xs := itemC y) (by rw [hy]; rfl) rfl rfl).mono (fun _ _ _ => trivial)
          have hlb := Lib.hid (show M.length + 1 ≤ 1099511627776 by have := hMe.out; omega)
          generalize kindL (getR T q) = kk at *
          clear hO6 ho7 ho8 hal hb7 hl7 hy hpy hM hb57 hb56 HG HTS HS1 hall
          go_wp2_with (at_builtin; refine wpList_append_item rfl (.tmp 40) (.tmp 46) (t := 22) rfl rfl rfl hO3.out.row rfl ra.out hlb.out hba.size ?_; intro A8 c8 w8 ho5 hb5 hk5)
          have hb6 := hba.trans hb5
          have hO5 := hO3.out.push ho4.out ho5 hb5 hk5
          have hl5 : (M ++ [y]).length = i + 1 := by rw [List.length_append, hMe.out]; rfl
          go_roundw
          case rel => exact ⟨i + 1, A8, c8, M ++ [y], hlt, by go_num, by simp, HN, HAL, hl5, hO5, hb6⟩
          case measure => simp [intOf]; omega
      · have e : i = S.length := by omega
        subst e
        rw [List.take_length] at hM hall
        have HRR : Hid (R = (S.map (fun q => ((moveT q p t).1, leafS T q)) ++ goneS T p, 0)) := Lib.hid (by rw [HR1.out, if_pos hall.out])
        have HG := Lib.hid (gone_any tb mo L p wr (HT5.out.below hb) (by omega))
        rw [hTT.out] at HG
        have hMl := hMe
        clear hall HR1 q2
        go_wp2_with fail
        refine HG.out.mono ?_
        rintro e w6 ⟨A6, c6, N, rfl, hN, hO6, hb6⟩
        have hb56 := hb.trans (hb6.mono hb.size)
        have hOM := Lib.hid (hO.below hb6)
        have hON := Lib.hid (hO6.base (base' := w5.heap.size) hb.size)
        have hNl : N.length ≤ 129 := by
          rw [← plain_len, hN.out]
          exact gone_len HOK.out p
        have hlb := Lib.hid (show M.length + N.length ≤ 1099511627776 by rw [hMl.out]; omega)
        have HP1 : Hid (plainL (M ++ N) = R.1) := Lib.hid (by rw [HRR.out, plain_app, hM.out, hN.out])
        have hR2 : R.2 = 0 := by rw [HRR.out]
        have HR2 := Lib.hid hR2
        clear hO hO6 hM hN hR2 HG hb6 hNl q1 xr
        go_wp2_with (at_builtin; refine wpList_append_items rfl (.tmp 49) (.tmp 53) (t := 22) rfl rfl rfl hOM.out rfl hON.out hlb.out hb56.size ?_; intro A8 c8 w8 ho8 hb8)
        have e8 : M.length + N.length = (M ++ N).length := by simp
        go_ret2
        rw [HR2.out]
        refine ⟨A8, c8, M ++ N, ?_, HP1, ho8.base hw5.size, hw5.trans ((hb56.trans hb8).mono hw5.size)⟩
        rw [← e8]
        rfl
  · have hkb : (kindL (getR T t) != 0) = true := by simpa using hk
    obtain rfl : R = ([], 21) := by rw [HR.out]; unfold movedS; rw [if_pos hk]
    generalize kindL (getR T t) = kk at *
    go_wp2_with fail
    go_ret2
    exact ⟨none, 0, [], rfl, rfl, ⟨World.ownsRow_nil _ _ _ _, by simp⟩, hw1⟩

end Go.Proofs.YtedbjkmgfcnkeaaGreat

/- edit.plan. -/
namespace Go.Proofs.YtedbjkmgfcnkeaaGreat
open Go.RowKit

theorem item_lit (w : World) (y : List UInt8 × LV) : (w.alloc (.cells #[.string ⟨⟨y.1⟩⟩, .int .i64 y.2.k, .slice y.2.x.A y.2.x.l.length y.2.x.c] 51)).ownsRow w.heap.size 51 3 (.slice (some ⟨w.heap.size, 0, none⟩) 1 1) 1 (itemC y) :=
  World.ownsRow_lit (base := w.heap.size) (e := 51) (size := 3) w #[.string ⟨⟨y.1⟩⟩, .int .i64 y.2.k, .slice y.2.x.A y.2.x.l.length y.2.x.c] 1 (Nat.le_refl _) (by simp [maxLen]) (by simp)
/-- one item, just laid -/
theorem ItsOwn.lit {w : World} {base : Nat} (y : List UInt8 × LV) (hb : base ≤ w.heap.size) (hy : OwB w base (.slice y.2.x.A y.2.x.l.length y.2.x.c) y.2.x.l) :
    ItsOwn (w.alloc (.cells #[.string ⟨⟨y.1⟩⟩, .int .i64 y.2.k, .slice y.2.x.A y.2.x.l.length y.2.x.c] 51)) base (some ⟨w.heap.size, 0, none⟩) 1 [y] := by
  refine ⟨?_, fun x hx => ?_⟩
  · have := own_base (item_lit w y) (base' := base) (fun g hg => by
      have e : w.heap.size = g := by simpa [Value.ownBlock] using hg
      omega)
    unfold OwI
    rw [List.flatMap_cons, List.flatMap_nil, List.append_nil]
    exact this
  · rw [List.mem_singleton.1 hx]
    exact own_below hy ((Below.refl _ _).alloc (Nat.le_refl _) _)

set_option maxRecDepth 100000 in
set_option maxHeartbeats 4000000 in
theorem plan_any (tb : Nat) (mo : Option Nat) (L : List (List UInt8 × LV)) (k : Int) (p t : List UInt8) (dA : Option Addr) (dc : Nat) (dl : List UInt8) (Z : Nat → Prop) (w : World) (h : TreeAt w tb mo L) (hp : p.length ≤ 1048576) (ht : t.length ≤ 1048576) (hy : By w Z dA dl) (hdl : dl.length ≤ 4096) (hk : 1 ≤ k ∧ k ≤ 5) :
    Calls Tryz.prog 55 #[.pointer (some ⟨tb, 0, none⟩), .agg #[.int .i64 k, .string ⟨⟨p⟩⟩, .string ⟨⟨t⟩⟩, .slice dA dl.length dc]] w fun e w' => ∃ (A : Option Addr) (c : Nat) (M : List (List UInt8 × LV)), e = .returned (.tuple #[.slice A M.length c, .int .i64 (planS (plainL L) k p t dl).2]) ∧ Hid (plainL M = (planS (plainL L) k p t dl).1) ∧ ItsOwn w' w.heap.size A c M ∧ Below w.heap.size w w' := by
  have hok := h.plain
  obtain ⟨T, hT⟩ : ∃ T, T = plainL L := ⟨_, rfl⟩
  have hTT : Hid (plainL L = T) := Lib.hid hT.symm
  rw [← hT] at hok ⊢
  obtain ⟨R, hR⟩ : ∃ R, R = planS T k p t dl := ⟨_, rfl⟩
  rw [← hR]
  have HR := Lib.hid hR
  have HT := Lib.hid h
  have HY := Lib.hid hy
  have hdn : (dataL (getR T p)).length ≤ 4096 := by
    rcases hg : getR T p with _ | v
    · simp [dataL]
    · have h1 := (hok.good _ (getR_mem hg)).2.2
      show v.2.length ≤ 4096
      unfold checkN at h1
      dsimp only at h1
      by_cases k1 : v.1 = 1
      · rw [if_pos k1] at h1
        by_cases h2 : v.2.length ≤ 4096
        · exact h2
        · rw [if_neg h2] at h1; simp at h1
      · rw [if_neg k1] at h1
        by_cases h3 : v.1 = 0 ∨ v.1 = 2
        · rw [if_pos h3] at h1
          by_cases h4 : v.2.length = 0
          · omega
          · rw [if_neg h4] at h1; simp at h1
        · rw [if_neg h3] at h1; simp at h1
  clear h hT hR hok hy
  obtain rfl | rfl | rfl | rfl | rfl : k = 1 ∨ k = 2 ∨ k = 3 ∨ k = 4 ∨ k = 5 := by omega
  · replace HR : Hid (R = ([(p, (1, dl))], 0)) := Lib.hid (by rw [HR.out]; unfold planS; simp)
    have hw0 : Below w.heap.size w (w.alloc (.cells #[.int .i64 1, .string ⟨⟨p⟩⟩, .string ⟨⟨t⟩⟩, .slice dA dl.length dc] 35)) := (by repeat (first | exact Below.refl _ _ | refine Below.alloc ?_ (by simp) _ | refine Below.setCell ?_ (by simp) _ | refine Below.drew ?_))
    have x0 := Blk.new w 35 #[.int .i64 1, .string ⟨⟨p⟩⟩, .string ⟨⟨t⟩⟩, .slice dA dl.length dc]
    have q1 := x0.cell 1
    simp only [List.getElem?_toArray, List.getElem?_cons_zero, List.getElem?_cons_succ] at q1
    go_enter Tryz.func55, Tryz.ntmps55
    go_wp2_with fail
    refine (treeGetP (HT.out.below hw0) hTT p hp).mono ?_
    rintro e w1 ⟨⟨A1, c1, l1, rfl, hl1, ho1⟩, hb1⟩
    have x1 := x0.below hb1
    have hw1 := hw0.trans (hb1.mono hw0.size)
    clear q1 hb1 x0
    have hwb : Below w1.heap.size w1 (w1.alloc (.cells #[.int .i64 (kindL (getR T p)), .slice A1 l1.length c1] 49)) := (Below.refl _ _).alloc (Nat.le_refl _) _
    have lb := Blk.new w1 49 #[.int .i64 (kindL (getR T p)), .slice A1 l1.length c1]
    have x2 := x1.below hwb
    have hw2 := hw1.trans (hwb.mono hw1.size)
    have q0 := x2.cell 0
    have r0 := lb.cell 0
    have r1 := lb.cell 1
    simp only [List.getElem?_toArray, List.getElem?_cons_zero, List.getElem?_cons_succ] at q0 r0 r1
    have q3 := x2.cell 3
    simp only [List.getElem?_toArray, List.getElem?_cons_zero, List.getElem?_cons_succ] at q3
    have hd3 : (dl.length : Int) ≤ 4096 := by omega
    have hy3 := Lib.hid ((HY.out.below hw1).below hwb)
    have hw3 := hw2
    have x3 := x2
    clear hl1 ho1 hwb lb r0 r1 x1 x2 hw2
    go_wp2_with fail
    clear q0 q3
    generalize w1.alloc (.cells #[.int .i64 (kindL (getR T p)), .slice A1 l1.length c1] 49) = w3 at *
    obtain ⟨A3, c3, l3, rfl, rfl, hdd⟩ : ∃ (A3 : Option Addr) (c3 : Nat) (l3 : List UInt8), dA = A3 ∧ dc = c3 ∧ dl = l3 := ⟨_, _, _, rfl, rfl, rfl⟩
    subst hdd
    have HD : Hid (dl = dl) := rfl
    refine wp_region_m [true, true, true, true, false] (fun W => Below w3.heap.size w3 W) (by kernel_rfl) (by kernel_rfl) ?_
    simp only [List.length_cons, List.length_nil, Nat.zero_add, Nat.reduceAdd, List.take_succ_cons, List.take_zero, List.drop_succ_cons, List.drop_zero]
    refine mx_val (by kernel_rfl) ⟨_, (by (intro w' hC; clear hC; (try go_simp); (try with_reducible rfl); done)), _, (by (simp only [Act.put, List.setIfInBounds_toArray, List.set_cons_zero, List.set_cons_succ]; rfl)), ?_⟩
    refine mx_val (by kernel_rfl) ⟨_, (by (intro w' hC; (have q := (x3.below hC).cell 1; simp only [List.getElem?_toArray, List.getElem?_cons_zero, List.getElem?_cons_succ] at q); clear hC; (try go_simp); (try with_reducible rfl); done)), _, (by (simp only [Act.put, List.setIfInBounds_toArray, List.set_cons_zero, List.set_cons_succ]; rfl)), ?_⟩
    refine mx_val (by kernel_rfl) ⟨_, (by (intro w' hC; clear hC; (try go_simp); (try with_reducible rfl); done)), _, (by (simp only [Act.put, List.setIfInBounds_toArray, List.set_cons_zero, List.set_cons_succ]; rfl)), ?_⟩
    refine mx_val (by kernel_rfl) ⟨_, (by (intro w' hC; (have q := (x3.below hC).cell 3; simp only [List.getElem?_toArray, List.getElem?_cons_zero, List.getElem?_cons_succ] at q); clear hC; (try go_simp); (try with_reducible rfl); done)), _, (by (simp only [Act.put, List.setIfInBounds_toArray, List.set_cons_zero, List.set_cons_succ]; rfl)), ?_⟩
    refine mx_call ((Below.refl _ _).drew) (by kernel_rfl) ?_ (leafOf_any dA dc dl _ w3.drew (hy3.out.drew) (by omega)) ?_
    · (go_simp; done)
    rintro e w4 ⟨A4, c4, l4, rfl, hl4, ho4, hb4⟩
    have hlow4 : Below w3.heap.size w3 w4 := (Below.refl _ _).drew.trans (hb4.mono (Nat.le_refl _))
    refine ⟨_, rfl, _, (by (simp only [Act.put, List.setIfInBounds_toArray, List.set_cons_zero, List.set_cons_succ]; rfl)), ?_⟩
    refine mx_end hlow4 ?_
    have hw4 := hw3.trans (hlow4.mono hw3.size)
    have HI := Lib.hid (ItsOwn.lit (w := w4) (base := w.heap.size) (p, ⟨1, ⟨A4, c4, l4⟩⟩) hw4.size (own_base ho4 (fun g hg => Nat.le_trans hw3.size (ho4.lt g hg).1)))
    have HP : Hid (plainL [(p, (⟨1, ⟨A4, c4, l4⟩⟩ : LV))] = R.1) := Lib.hid (by rw [HR.out, ← HD.out, ← hl4.out]; rfl)
    have hR2 : R.2 = 0 := by rw [HR.out]
    have HR2 := Lib.hid hR2
    clear hR2 ho4 hl4 hb4 hlow4 hy3 x3 hw3 HR HD
    go_wp2_with fail
    go_ret2
    exact ⟨some ⟨w4.heap.size, 0, none⟩, 1, _, by rw [HR2.out]; rfl, HP.out, HI.out, hw4.alloc hw4.size _⟩
  · by_cases h2 : kindL (getR T p) = 2
    · replace HR : Hid (R = ([], 22)) := Lib.hid (by rw [HR.out]; unfold planS; simp [h2])
      have hw0 : Below w.heap.size w (w.alloc (.cells #[.int .i64 2, .string ⟨⟨p⟩⟩, .string ⟨⟨t⟩⟩, .slice dA dl.length dc] 35)) := (by repeat (first | exact Below.refl _ _ | refine Below.alloc ?_ (by simp) _ | refine Below.setCell ?_ (by simp) _ | refine Below.drew ?_))
      have x0 := Blk.new w 35 #[.int .i64 2, .string ⟨⟨p⟩⟩, .string ⟨⟨t⟩⟩, .slice dA dl.length dc]
      have q1 := x0.cell 1
      simp only [List.getElem?_toArray, List.getElem?_cons_zero, List.getElem?_cons_succ] at q1
      go_enter Tryz.func55, Tryz.ntmps55
      go_wp2_with fail
      refine (treeGetP (HT.out.below hw0) hTT p hp).mono ?_
      rintro e w1 ⟨⟨A1, c1, l1, rfl, hl1, ho1⟩, hb1⟩
      have x1 := x0.below hb1
      have hw1 := hw0.trans (hb1.mono hw0.size)
      clear q1 hb1 x0
      have hwb : Below w1.heap.size w1 (w1.alloc (.cells #[.int .i64 (kindL (getR T p)), .slice A1 l1.length c1] 49)) := (Below.refl _ _).alloc (Nat.le_refl _) _
      have lb := Blk.new w1 49 #[.int .i64 (kindL (getR T p)), .slice A1 l1.length c1]
      have x2 := x1.below hwb
      have hw2 := hw1.trans (hwb.mono hw1.size)
      have q0 := x2.cell 0
      have r0 := lb.cell 0
      have r1 := lb.cell 1
      simp only [List.getElem?_toArray, List.getElem?_cons_zero, List.getElem?_cons_succ] at q0 r0 r1
      rw [h2] at q0 r0 r1 hw2 ⊢
      go_wp2_with fail
      go_ret2
      exact ⟨none, 0, [], by rw [HR.out]; rfl, by show _ = _; rw [HR.out]; rfl, ⟨World.ownsRow_nil _ _ _ _, by simp⟩, hw2⟩
    · replace HR : Hid (R = if 4096 < (dataL (getR T p) ++ dl).length then ([], 13) else ([(p, (1, dataL (getR T p) ++ dl))], 0)) := Lib.hid (by rw [HR.out]; unfold planS; simp [h2])
      have h2b : (kindL (getR T p) == 2) = false := by simpa using h2
      have hw0 : Below w.heap.size w (w.alloc (.cells #[.int .i64 2, .string ⟨⟨p⟩⟩, .string ⟨⟨t⟩⟩, .slice dA dl.length dc] 35)) := (by repeat (first | exact Below.refl _ _ | refine Below.alloc ?_ (by simp) _ | refine Below.setCell ?_ (by simp) _ | refine Below.drew ?_))
      have x0 := Blk.new w 35 #[.int .i64 2, .string ⟨⟨p⟩⟩, .string ⟨⟨t⟩⟩, .slice dA dl.length dc]
      have q1 := x0.cell 1
      simp only [List.getElem?_toArray, List.getElem?_cons_zero, List.getElem?_cons_succ] at q1
      go_enter Tryz.func55, Tryz.ntmps55
      go_wp2_with fail
      refine (treeGetP (HT.out.below hw0) hTT p hp).mono ?_
      rintro e w1 ⟨⟨A1, c1, l1, rfl, hl1, ho1⟩, hb1⟩
      have x1 := x0.below hb1
      have hw1 := hw0.trans (hb1.mono hw0.size)
      clear q1 hb1 x0
      have hwb : Below w1.heap.size w1 (w1.alloc (.cells #[.int .i64 (kindL (getR T p)), .slice A1 l1.length c1] 49)) := (Below.refl _ _).alloc (Nat.le_refl _) _
      have lb := Blk.new w1 49 #[.int .i64 (kindL (getR T p)), .slice A1 l1.length c1]
      have x2 := x1.below hwb
      have hw2 := hw1.trans (hwb.mono hw1.size)
      have q0 := x2.cell 0
      have r0 := lb.cell 0
      have r1 := lb.cell 1
      simp only [List.getElem?_toArray, List.getElem?_cons_zero, List.getElem?_cons_succ] at q0 r0 r1
      have q3 := x2.cell 3
      simp only [List.getElem?_toArray, List.getElem?_cons_zero, List.getElem?_cons_succ] at q3
      generalize kindL (getR T p) = kk at *
      have HD0 : Hid (l1 = dataL (getR T p)) := hl1
      have hl1n : l1.length ≤ 4096 := by rw [hl1.out]; exact hdn
      have ho2 := Lib.hid (own_below (own_base ho1 (fun g hg => Nat.le_trans hw0.size (ho1.lt g hg).1) : OwB w1 w.heap.size (.slice A1 l1.length c1) l1) hwb)
      have hy2 := Lib.hid ((HY.out.below hw1).below hwb)
      have hhs := hw2.size
      clear hl1 ho1 hwb lb x1
      go_wp2_with (at_builtin; refine wpList_append_by rfl (.tmp 23) (.tmp 25) rfl (v := .slice A1 l1.length c1) rfl ho2.out rfl hy2.out (by omega) hhs ?_; intro L8 A8 c8 w8 hL8 ho8 hg8 hat8; have hxb8 := x2.grown hg8 (fun e => by have := (x2.own_ne ho2.out (by decide)); exact this e); have f8 := hxb8.frozen 3; have q38 := hxb8.cell 3; simp only [List.getElem?_toArray, List.getElem?_cons_zero, List.getElem?_cons_succ] at q38)
      · have h8 : (4096 : Int) < (L8.length : Int) := by assumption
        have h9 : 4096 < L8.length := by omega
        replace HR : Hid (R = ([], 13)) := Lib.hid (by rw [HR.out, ← HD0.out, ← hL8.out, if_pos h9])
        have hb8 : Below w.heap.size w w8 := hw2.trans (grown_below hg8 hhs (fun g hg => (ho2.out.lt _ hg).1))
        go_ret2
        exact ⟨none, 0, [], by rw [HR.out]; rfl, by show _ = _; rw [HR.out]; rfl, ⟨World.ownsRow_nil _ _ _ _, by simp⟩, hb8.setCell (p := ⟨w.heap.size, 3, none⟩) (Nat.le_refl _) _⟩
      · have h8 : (L8.length : Int) ≤ 4096 := by assumption
        have h9 : L8.length ≤ 4096 := by omega
        replace HR : Hid (R = ([(p, (1, L8))], 0)) := Lib.hid (by rw [HR.out, ← HD0.out, ← hL8.out, if_neg (by omega)])
        have hb8 : Below w.heap.size w w8 := hw2.trans (grown_below hg8 hhs (fun g hg => (ho2.out.lt _ hg).1))
        have x3 := hxb8.set_ 3 (.slice A8 L8.length c8)
        have hw3 : Below w.heap.size w (w8.setCell ⟨w.heap.size, 3, none⟩ (.slice A8 L8.length c8)) := hb8.setCell (p := ⟨w.heap.size, 3, none⟩) (Nat.le_refl _) _
        have ho9 : OwB (w8.setCell ⟨w.heap.size, 3, none⟩ (.slice A8 L8.length c8)) w.heap.size (.slice A8 L8.length c8) L8 := own_fr ho8 ((Fr.refl (fun g => g = w.heap.size) w8).setAt w.heap.size 3 rfl _) (fun g hg e => hxb8.own_ne ho8 (by decide) (by rw [hg, e]))
        have hy3 := Lib.hid ho9.rd
        have HD : Hid (L8 = L8) := rfl
        clear q0 r0 r1 q3 f8 q38 hxb8 hg8 hat8 ho8 ho9 hb8 hw2 hy2 ho2 x2 hhs
        generalize w8.setCell ⟨w.heap.size, 3, none⟩ (.slice A8 L8.length c8) = w3 at *
        simp only [List.setIfInBounds_toArray, List.set_cons_zero, List.set_cons_succ] at x3
        refine wp_region_m [true, true, true, true, false] (fun W => Below w3.heap.size w3 W) (by kernel_rfl) (by kernel_rfl) ?_
        simp only [List.length_cons, List.length_nil, Nat.zero_add, Nat.reduceAdd, List.take_succ_cons, List.take_zero, List.drop_succ_cons, List.drop_zero]
        refine mx_val (by kernel_rfl) ⟨_, (by (intro w' hC; clear hC; (try go_simp); (try with_reducible rfl); done)), _, (by (simp only [Act.put, List.setIfInBounds_toArray, List.set_cons_zero, List.set_cons_succ]; rfl)), ?_⟩
        refine mx_val (by kernel_rfl) ⟨_, (by (intro w' hC; (have q := (x3.below hC).cell 1; simp only [List.getElem?_toArray, List.getElem?_cons_zero, List.getElem?_cons_succ] at q); clear hC; (try go_simp); (try with_reducible rfl); done)), _, (by (simp only [Act.put, List.setIfInBounds_toArray, List.set_cons_zero, List.set_cons_succ]; rfl)), ?_⟩
        refine mx_val (by kernel_rfl) ⟨_, (by (intro w' hC; clear hC; (try go_simp); (try with_reducible rfl); done)), _, (by (simp only [Act.put, List.setIfInBounds_toArray, List.set_cons_zero, List.set_cons_succ]; rfl)), ?_⟩
        refine mx_val (by kernel_rfl) ⟨_, (by (intro w' hC; (have q := (x3.below hC).cell 3; simp only [List.getElem?_toArray, List.getElem?_cons_zero, List.getElem?_cons_succ] at q); clear hC; (try go_simp); (try with_reducible rfl); done)), _, (by (simp only [Act.put, List.setIfInBounds_toArray, List.set_cons_zero, List.set_cons_succ]; rfl)), ?_⟩
        refine mx_call ((Below.refl _ _).drew) (by kernel_rfl) ?_ (leafOf_any A8 c8 L8 _ w3.drew (hy3.out.drew) (by omega)) ?_
        · (go_simp; done)
        rintro e w4 ⟨A4, c4, l4, rfl, hl4, ho4, hb4⟩
        have hlow4 : Below w3.heap.size w3 w4 := (Below.refl _ _).drew.trans (hb4.mono (Nat.le_refl _))
        refine ⟨_, rfl, _, (by (simp only [Act.put, List.setIfInBounds_toArray, List.set_cons_zero, List.set_cons_succ]; rfl)), ?_⟩
        refine mx_end hlow4 ?_
        have hw4 := hw3.trans (hlow4.mono hw3.size)
        have HI := Lib.hid (ItsOwn.lit (w := w4) (base := w.heap.size) (p, ⟨1, ⟨A4, c4, l4⟩⟩) hw4.size (own_base ho4 (fun g hg => Nat.le_trans hw3.size (ho4.lt g hg).1)))
        have HP : Hid (plainL [(p, (⟨1, ⟨A4, c4, l4⟩⟩ : LV))] = R.1) := Lib.hid (by rw [HR.out, ← HD.out, ← hl4.out]; rfl)
        have hR2 : R.2 = 0 := by rw [HR.out]
        have HR2 := Lib.hid hR2
        clear hR2 ho4 hl4 hb4 hlow4 hy3 x3 hw3 HR HD
        go_wp2_with fail
        go_ret2
        exact ⟨some ⟨w4.heap.size, 0, none⟩, 1, _, by rw [HR2.out]; rfl, HP.out, HI.out, hw4.alloc hw4.size _⟩
  · replace HR : Hid (R = ([(p, (2, []))], 0)) := Lib.hid (by rw [HR.out]; unfold planS; simp)
    have hw0 : Below w.heap.size w (w.alloc (.cells #[.int .i64 3, .string ⟨⟨p⟩⟩, .string ⟨⟨t⟩⟩, .slice dA dl.length dc] 35)) := (by repeat (first | exact Below.refl _ _ | refine Below.alloc ?_ (by simp) _ | refine Below.setCell ?_ (by simp) _ | refine Below.drew ?_))
    have x0 := Blk.new w 35 #[.int .i64 3, .string ⟨⟨p⟩⟩, .string ⟨⟨t⟩⟩, .slice dA dl.length dc]
    have q1 := x0.cell 1
    simp only [List.getElem?_toArray, List.getElem?_cons_zero, List.getElem?_cons_succ] at q1
    go_enter Tryz.func55, Tryz.ntmps55
    go_wp2_with fail
    refine (treeGetP (HT.out.below hw0) hTT p hp).mono ?_
    rintro e w1 ⟨⟨A1, c1, l1, rfl, hl1, ho1⟩, hb1⟩
    have x1 := x0.below hb1
    have hw1 := hw0.trans (hb1.mono hw0.size)
    clear q1 hb1 x0
    have hwb : Below w1.heap.size w1 (w1.alloc (.cells #[.int .i64 (kindL (getR T p)), .slice A1 l1.length c1] 49)) := (Below.refl _ _).alloc (Nat.le_refl _) _
    have lb := Blk.new w1 49 #[.int .i64 (kindL (getR T p)), .slice A1 l1.length c1]
    have x2 := x1.below hwb
    have hw2 := hw1.trans (hwb.mono hw1.size)
    have q0 := x2.cell 0
    have r0 := lb.cell 0
    have r1 := lb.cell 1
    simp only [List.getElem?_toArray, List.getElem?_cons_zero, List.getElem?_cons_succ] at q0 r0 r1
    have hw3 := hw2
    have x3 := x2
    clear hl1 ho1 hwb lb r0 r1 x1 x2 hw2
    go_wp2_with fail
    clear q0
    generalize w1.alloc (.cells #[.int .i64 (kindL (getR T p)), .slice A1 l1.length c1] 49) = w3 at *
    refine wp_region_m [true, true, false] (fun W => Below w3.heap.size w3 W) (by kernel_rfl) (by kernel_rfl) ?_
    simp only [List.length_cons, List.length_nil, Nat.zero_add, Nat.reduceAdd, List.take_succ_cons, List.take_zero, List.drop_succ_cons, List.drop_zero]
    refine mx_val (by kernel_rfl) ⟨_, (by (intro w' hC; clear hC; (try go_simp); (try with_reducible rfl); done)), _, (by (simp only [Act.put, List.setIfInBounds_toArray, List.set_cons_zero, List.set_cons_succ]; rfl)), ?_⟩
    refine mx_val (by kernel_rfl) ⟨_, (by (intro w' hC; (have q := (x3.below hC).cell 1; simp only [List.getElem?_toArray, List.getElem?_cons_zero, List.getElem?_cons_succ] at q); clear hC; (try go_simp); (try with_reducible rfl); done)), _, (by (simp only [Act.put, List.setIfInBounds_toArray, List.set_cons_zero, List.set_cons_succ]; rfl)), ?_⟩
    refine mx_call ((Below.refl _ _).drew) (by kernel_rfl) ?_ (leafDir_any w3.drew) ?_
    · (go_simp; done)
    rintro e w4 ⟨rfl, hb4⟩
    have hlow4 : Below w3.heap.size w3 w4 := (Below.refl _ _).drew.trans (hb4.mono (Nat.le_refl _))
    refine ⟨_, rfl, _, (by (simp only [Act.put, List.setIfInBounds_toArray, List.set_cons_zero, List.set_cons_succ]; rfl)), ?_⟩
    refine mx_end hlow4 ?_
    have hw4 := hw3.trans (hlow4.mono hw3.size)
    have HI := Lib.hid (ItsOwn.lit (w := w4) (base := w.heap.size) (p, ⟨2, ⟨none, 0, []⟩⟩) hw4.size (OwB.nil _ _))
    have HP : Hid (plainL [(p, (⟨2, ⟨none, 0, []⟩⟩ : LV))] = R.1) := Lib.hid (by rw [HR.out]; rfl)
    have hR2 : R.2 = 0 := by rw [HR.out]
    have HR2 := Lib.hid hR2
    clear hR2 hb4 hlow4 x3 hw3 HR
    go_wp2_with fail
    go_ret2
    exact ⟨some ⟨w4.heap.size, 0, none⟩, 1, _, by rw [HR2.out]; rfl, HP.out, HI.out, hw4.alloc hw4.size _⟩
  · by_cases h0 : kindL (getR T p) = 0
    · replace HR : Hid (R = ([], 20)) := Lib.hid (by rw [HR.out]; unfold planS; simp [h0])
      have hw0 : Below w.heap.size w (w.alloc (.cells #[.int .i64 4, .string ⟨⟨p⟩⟩, .string ⟨⟨t⟩⟩, .slice dA dl.length dc] 35)) := (by repeat (first | exact Below.refl _ _ | refine Below.alloc ?_ (by simp) _ | refine Below.setCell ?_ (by simp) _ | refine Below.drew ?_))
      have x0 := Blk.new w 35 #[.int .i64 4, .string ⟨⟨p⟩⟩, .string ⟨⟨t⟩⟩, .slice dA dl.length dc]
      have q1 := x0.cell 1
      simp only [List.getElem?_toArray, List.getElem?_cons_zero, List.getElem?_cons_succ] at q1
      go_enter Tryz.func55, Tryz.ntmps55
      go_wp2_with fail
      refine (treeGetP (HT.out.below hw0) hTT p hp).mono ?_
      rintro e w1 ⟨⟨A1, c1, l1, rfl, hl1, ho1⟩, hb1⟩
      have x1 := x0.below hb1
      have hw1 := hw0.trans (hb1.mono hw0.size)
      clear q1 hb1 x0
      have hwb : Below w1.heap.size w1 (w1.alloc (.cells #[.int .i64 (kindL (getR T p)), .slice A1 l1.length c1] 49)) := (Below.refl _ _).alloc (Nat.le_refl _) _
      have lb := Blk.new w1 49 #[.int .i64 (kindL (getR T p)), .slice A1 l1.length c1]
      have x2 := x1.below hwb
      have hw2 := hw1.trans (hwb.mono hw1.size)
      have q0 := x2.cell 0
      have r0 := lb.cell 0
      have r1 := lb.cell 1
      simp only [List.getElem?_toArray, List.getElem?_cons_zero, List.getElem?_cons_succ] at q0 r0 r1
      rw [h0] at q0 r0 r1 hw2 ⊢
      have r0b : ((0 : Int) == 0) = true := rfl
      go_wp2_with fail
      go_ret2
      exact ⟨none, 0, [], by rw [HR.out]; rfl, by show _ = _; rw [HR.out]; rfl, ⟨World.ownsRow_nil _ _ _ _, by simp⟩, hw2⟩
    · replace HR : Hid (R = (goneS T p, 0)) := Lib.hid (by rw [HR.out]; unfold planS; simp [h0])
      have h0b : (kindL (getR T p) == 0) = false := by simpa using h0
      have hw0 : Below w.heap.size w (w.alloc (.cells #[.int .i64 4, .string ⟨⟨p⟩⟩, .string ⟨⟨t⟩⟩, .slice dA dl.length dc] 35)) := (by repeat (first | exact Below.refl _ _ | refine Below.alloc ?_ (by simp) _ | refine Below.setCell ?_ (by simp) _ | refine Below.drew ?_))
      have x0 := Blk.new w 35 #[.int .i64 4, .string ⟨⟨p⟩⟩, .string ⟨⟨t⟩⟩, .slice dA dl.length dc]
      have q1 := x0.cell 1
      simp only [List.getElem?_toArray, List.getElem?_cons_zero, List.getElem?_cons_succ] at q1
      go_enter Tryz.func55, Tryz.ntmps55
      go_wp2_with fail
      refine (treeGetP (HT.out.below hw0) hTT p hp).mono ?_
      rintro e w1 ⟨⟨A1, c1, l1, rfl, hl1, ho1⟩, hb1⟩
      have x1 := x0.below hb1
      have hw1 := hw0.trans (hb1.mono hw0.size)
      clear q1 hb1 x0
      have hwb : Below w1.heap.size w1 (w1.alloc (.cells #[.int .i64 (kindL (getR T p)), .slice A1 l1.length c1] 49)) := (Below.refl _ _).alloc (Nat.le_refl _) _
      have lb := Blk.new w1 49 #[.int .i64 (kindL (getR T p)), .slice A1 l1.length c1]
      have x2 := x1.below hwb
      have hw2 := hw1.trans (hwb.mono hw1.size)
      have q0 := x2.cell 0
      have r0 := lb.cell 0
      have r1 := lb.cell 1
      simp only [List.getElem?_toArray, List.getElem?_cons_zero, List.getElem?_cons_succ] at q0 r0 r1
      have q1 := x2.cell 1
      simp only [List.getElem?_toArray, List.getElem?_cons_zero, List.getElem?_cons_succ] at q1
      have HG := Lib.hid (gone_any tb mo L p _ (HT.out.below hw2) hp)
      rw [hTT.out] at HG
      generalize kindL (getR T p) = kk at *
      go_wp2_with fail
      refine HG.out.mono ?_
      rintro e w3 ⟨A3, c3, M3, rfl, hM3, hO3, hb3⟩
      have hw3 := hw2.trans (hb3.mono hw2.size)
      have HO := Lib.hid (hO3.base hw2.size)
      have HP : Hid (plainL M3 = R.1) := Lib.hid (by rw [HR.out, hM3.out])
      have hR2 : R.2 = 0 := by rw [HR.out]
      have HR2 := Lib.hid hR2
      clear hR2 hM3 hO3 HR HG
      go_wp2_with fail
      go_ret2
      exact ⟨A3, c3, M3, by rw [HR2.out]; rfl, HP.out, HO.out, hw3⟩
  · by_cases h0 : kindL (getR T p) = 0
    · replace HR : Hid (R = ([], 20)) := Lib.hid (by rw [HR.out]; unfold planS; simp [h0])
      have hw0 : Below w.heap.size w (w.alloc (.cells #[.int .i64 5, .string ⟨⟨p⟩⟩, .string ⟨⟨t⟩⟩, .slice dA dl.length dc] 35)) := (by repeat (first | exact Below.refl _ _ | refine Below.alloc ?_ (by simp) _ | refine Below.setCell ?_ (by simp) _ | refine Below.drew ?_))
      have x0 := Blk.new w 35 #[.int .i64 5, .string ⟨⟨p⟩⟩, .string ⟨⟨t⟩⟩, .slice dA dl.length dc]
      have q1 := x0.cell 1
      simp only [List.getElem?_toArray, List.getElem?_cons_zero, List.getElem?_cons_succ] at q1
      go_enter Tryz.func55, Tryz.ntmps55
      go_wp2_with fail
      refine (treeGetP (HT.out.below hw0) hTT p hp).mono ?_
      rintro e w1 ⟨⟨A1, c1, l1, rfl, hl1, ho1⟩, hb1⟩
      have x1 := x0.below hb1
      have hw1 := hw0.trans (hb1.mono hw0.size)
      clear q1 hb1 x0
      have hwb : Below w1.heap.size w1 (w1.alloc (.cells #[.int .i64 (kindL (getR T p)), .slice A1 l1.length c1] 49)) := (Below.refl _ _).alloc (Nat.le_refl _) _
      have lb := Blk.new w1 49 #[.int .i64 (kindL (getR T p)), .slice A1 l1.length c1]
      have x2 := x1.below hwb
      have hw2 := hw1.trans (hwb.mono hw1.size)
      have q0 := x2.cell 0
      have r0 := lb.cell 0
      have r1 := lb.cell 1
      simp only [List.getElem?_toArray, List.getElem?_cons_zero, List.getElem?_cons_succ] at q0 r0 r1
      rw [h0] at q0 r0 r1 hw2 ⊢
      have r0b : ((0 : Int) == 0) = true := rfl
      go_wp2_with fail
      go_ret2
      exact ⟨none, 0, [], by rw [HR.out]; rfl, by show _ = _; rw [HR.out]; rfl, ⟨World.ownsRow_nil _ _ _ _, by simp⟩, hw2⟩
    · replace HR : Hid (R = movedS T p t) := Lib.hid (by rw [HR.out]; unfold planS; simp [h0])
      have h0b : (kindL (getR T p) == 0) = false := by simpa using h0
      have hw0 : Below w.heap.size w (w.alloc (.cells #[.int .i64 5, .string ⟨⟨p⟩⟩, .string ⟨⟨t⟩⟩, .slice dA dl.length dc] 35)) := (by repeat (first | exact Below.refl _ _ | refine Below.alloc ?_ (by simp) _ | refine Below.setCell ?_ (by simp) _ | refine Below.drew ?_))
      have x0 := Blk.new w 35 #[.int .i64 5, .string ⟨⟨p⟩⟩, .string ⟨⟨t⟩⟩, .slice dA dl.length dc]
      have q1 := x0.cell 1
      simp only [List.getElem?_toArray, List.getElem?_cons_zero, List.getElem?_cons_succ] at q1
      go_enter Tryz.func55, Tryz.ntmps55
      go_wp2_with fail
      refine (treeGetP (HT.out.below hw0) hTT p hp).mono ?_
      rintro e w1 ⟨⟨A1, c1, l1, rfl, hl1, ho1⟩, hb1⟩
      have x1 := x0.below hb1
      have hw1 := hw0.trans (hb1.mono hw0.size)
      clear q1 hb1 x0
      have hwb : Below w1.heap.size w1 (w1.alloc (.cells #[.int .i64 (kindL (getR T p)), .slice A1 l1.length c1] 49)) := (Below.refl _ _).alloc (Nat.le_refl _) _
      have lb := Blk.new w1 49 #[.int .i64 (kindL (getR T p)), .slice A1 l1.length c1]
      have x2 := x1.below hwb
      have hw2 := hw1.trans (hwb.mono hw1.size)
      have q0 := x2.cell 0
      have r0 := lb.cell 0
      have r1 := lb.cell 1
      simp only [List.getElem?_toArray, List.getElem?_cons_zero, List.getElem?_cons_succ] at q0 r0 r1
      have q1 := x2.cell 1
      have q2 := x2.cell 2
      have q3 := x2.cell 3
      simp only [List.getElem?_toArray, List.getElem?_cons_zero, List.getElem?_cons_succ] at q1 q2 q3
      have HG := Lib.hid (moved_any tb mo L 5 p t dA dl.length dc _ (HT.out.below hw2) hp ht)
      rw [hTT.out, ← HR.out] at HG
      generalize kindL (getR T p) = kk at *
      go_wp2_with fail
      refine HG.out.mono ?_
      rintro e w3 ⟨A3, c3, M3, rfl, hM3, hO3, hb3⟩
      have hw3 := hw2.trans (hb3.mono hw2.size)
      have HO := Lib.hid (hO3.base hw2.size)
      clear hO3 HR HG
      go_wp2_with fail
      go_ret2
      exact ⟨A3, c3, M3, rfl, hM3, HO.out, hw3⟩

end Go.Proofs.YtedbjkmgfcnkeaaGreat
