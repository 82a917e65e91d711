/- name.Move. -/
import Derived.Test.YtffimpjjdhnajaaNameFns
namespace Go.Proofs.Ytffimpjjdhnajaa
open Go.RowKit

/-- where a path stands, once another one was moved -/
def moveT (p f t : List UInt8) : List UInt8 × Bool :=
  if goodB p && goodB f && goodB t && (p == f || underB p f) && goodB (t ++ p.drop f.length) then (t ++ p.drop f.length, true) else ([], false)
theorem drop_pre {p f : List UInt8} (h : preB p f = true) : ∃ q, p = f ++ 47 :: q := by
  unfold preB at h
  obtain ⟨q, rfl⟩ := List.isPrefixOf_iff_prefix.1 h
  exact ⟨q, by simp⟩
/-- the same by parts -/
theorem move_parts {p f : List UInt8} (t : List UInt8) (h : p = f ∨ preB p f = true) : pasteL (cutL t ++ (cutL p).drop (cutL f).length) = t ++ p.drop f.length := by
  rcases h with rfl | h
  · rw [List.drop_of_length_le (Nat.le_refl _), List.drop_of_length_le (Nat.le_refl _), List.append_nil, List.append_nil, paste_cut]
  · obtain ⟨q, rfl⟩ := drop_pre h
    rw [cut_app, List.drop_left' rfl, List.drop_left' rfl, paste_app _ _ (cutL_ne t) (cutL_ne q), paste_cut, paste_cut]

set_option maxRecDepth 100000 in
set_option maxHeartbeats 1000000 in
theorem move_any (p f t : ByteArray) (hp : p.size ≤ 1048576) (hf : f.size ≤ 1048576) (ht : t.size ≤ 1048576) (w : World) : Calls Try.prog 19 #[.string p, .string f, .string t] w fun e w' => ∃ s b, e = .returned (.tuple #[.string s, .bool b]) ∧ Hid ((tl s, b) = moveT (tl p) (tl f) (tl t)) ∧ Below w.heap.size w w' := by
  obtain ⟨M, hM⟩ : ∃ M, M = moveT (tl p) (tl f) (tl t) := ⟨_, rfl⟩
  rw [← hM]
  cases gp : goodB (tl p)
  · have HP := Lib.hid (check_no p (by omega) gp)
    have HM : Hid (M = ([], false)) := by show _ = _; rw [hM]; unfold moveT; rw [gp]; rfl
    clear gp hM
    go_enter Try.func19, Try.ntmps19
    go_wp2_with fail
    refine (HP.out _).mono ?_
    rintro e w1 ⟨rfl, hb1⟩
    go_wp2_with fail
    go_ret2
    exact ⟨_, _, rfl, HM.out.symm, hb1⟩
  have HP := Lib.hid (check_yes p (by omega) gp)
  cases gf : goodB (tl f)
  · have HF := Lib.hid (check_no f (by omega) gf)
    have HM : Hid (M = ([], false)) := by show _ = _; rw [hM]; unfold moveT; rw [gp, gf]; rfl
    clear gp gf hM
    go_enter Try.func19, Try.ntmps19
    go_wp2_with fail
    refine (HP.out _).mono ?_
    rintro e w1 ⟨rfl, hb1⟩
    go_wp2_with fail
    refine (HF.out _).mono ?_
    rintro e w2 ⟨rfl, hb2⟩
    go_wp2_with fail
    go_ret2
    exact ⟨_, _, rfl, HM.out.symm, bthen hb1 hb2⟩
  have HF := Lib.hid (check_yes f (by omega) gf)
  cases gt : goodB (tl t)
  · have HT := Lib.hid (check_no t (by omega) gt)
    have HM : Hid (M = ([], false)) := by show _ = _; rw [hM]; unfold moveT; rw [gp, gf, gt]; rfl
    clear gp gf gt hM
    go_enter Try.func19, Try.ntmps19
    go_wp2_with fail
    refine (HP.out _).mono ?_
    rintro e w1 ⟨rfl, hb1⟩
    go_wp2_with fail
    refine (HF.out _).mono ?_
    rintro e w2 ⟨rfl, hb2⟩
    go_wp2_with fail
    refine (HT.out _).mono ?_
    rintro e w3 ⟨rfl, hb3⟩
    go_wp2_with fail
    go_ret2
    exact ⟨_, _, rfl, HM.out.symm, bthen (bthen hb1 hb2) hb3⟩
  have HT := Lib.hid (check_yes t (by omega) gt)
  have HU := Lib.hid (fun w => under_any p f (by omega) (by omega) w)
  have hts := goodB_len gt
  rw [tl_len] at hts
  have hps := goodB_len gp
  rw [tl_len] at hps
  have hfs := goodB_len gf
  rw [tl_len] at hfs
  -- the new path
  have hO : ∀ (_ : f.size ≤ p.size), tl (t ++ p.extract f.size p.size) = tl t ++ (tl p).drop (tl f).length := fun _ => by rw [under_short, tl_tail, tl_len]
  by_cases hor : p = f ∨ preB (tl p) (tl f) = true
  · have hle : f.size ≤ p.size := by
      rcases hor with h | h
      · rw [h]; exact Nat.le_refl _
      · obtain ⟨q, h⟩ := drop_pre h
        have := congrArg List.length h
        rw [List.length_append, tl_len, tl_len] at this
        omega
    have hor2 : (tl p == tl f || underB (tl p) (tl f)) = true := by
      rcases hor with h | h
      · rw [h]; simp
      · unfold underB; rw [gp, gf, h]; simp
    cases go : goodB (tl t ++ (tl p).drop (tl f).length)
    all_goals
      have HG := Lib.hid (fun w => check_any (t ++ p.extract f.size p.size) (by simp; omega) w)
      rw [hO hle, go] at HG
      have HM : Hid (M = if goodB (tl t ++ (tl p).drop (tl f).length) then (tl (t ++ p.extract f.size p.size), true) else ([], false)) := by
        show _ = _
        rw [hM]; unfold moveT; rw [gp, gf, gt, hor2, go, hO hle]; rfl
      rw [go] at HM
      have b1 : (f.size : Int) ≤ (p.size : Int) := by omega
      have b2 : (0 : Int) ≤ (f.size : Int) := by omega
      have b3 : t.size + (p.size - f.size) ≤ 9223372036854775807 := by omega
      by_cases hpf : p = f
      · have hn := neq_yes hpf
        clear gp gf gt hor hor2 hM hO go hpf
        go_enter Try.func19, Try.ntmps19
        go_wp2_with fail
        refine (HP.out _).mono ?_
        rintro e w1 ⟨rfl, hb1⟩
        go_wp2_with fail
        refine (HF.out _).mono ?_
        rintro e w2 ⟨rfl, hb2⟩
        go_wp2_with fail
        refine (HT.out _).mono ?_
        rintro e w3 ⟨rfl, hb3⟩
        replace hb3 := bthen (bthen hb1 hb2) hb3
        go_wp2_with fail
        refine (HG.out _).mono ?_
        rintro e w4 ⟨rfl, hb4⟩
        go_wp2_with fail
        go_ret2
        exact ⟨_, _, rfl, HM.out.symm, bthen hb3 hb4⟩
      · have hn := neq_no hpf
        have hpu : preB (tl p) (tl f) = true := hor.resolve_left hpf
        have hut : underB (tl p) (tl f) = true := by unfold underB; rw [gp, gf, hpu]; rfl
        have HU2 := HU
        rw [hut] at HU2
        clear gp gf gt hor hor2 hM hO go hpf hpu hut HU
        go_enter Try.func19, Try.ntmps19
        go_wp2_with fail
        refine (HP.out _).mono ?_
        rintro e w1 ⟨rfl, hb1⟩
        go_wp2_with fail
        refine (HF.out _).mono ?_
        rintro e w2 ⟨rfl, hb2⟩
        go_wp2_with fail
        refine (HT.out _).mono ?_
        rintro e w3 ⟨rfl, hb3⟩
        replace hb3 := bthen (bthen hb1 hb2) hb3
        go_wp2_with fail
        refine (HU2.out _).mono ?_
        rintro e w5 ⟨rfl, hb5⟩
        replace hb5 := bthen hb3 hb5
        go_wp2_with fail
        refine (HG.out _).mono ?_
        rintro e w4 ⟨rfl, hb4⟩
        go_wp2_with fail
        go_ret2
        exact ⟨_, _, rfl, HM.out.symm, bthen hb5 hb4⟩
  · have hpf : p ≠ f := fun e => hor (.inl e)
    have hn := neq_no hpf
    have hut : underB (tl p) (tl f) = false := by
      have : preB (tl p) (tl f) = false := by cases h : preB (tl p) (tl f); rfl; exact (hor (.inr h)).elim
      unfold underB; rw [this]; simp
    have hne : (tl p == tl f) = false := by simp only [beq_eq_false_iff_ne, ne_eq]; exact fun e => hpf (tl_inj e)
    have HM : Hid (M = ([], false)) := by show _ = _; rw [hM]; unfold moveT; rw [hut, hne]; simp
    rw [hut] at HU
    clear gp gf gt hor hM hO hpf hut hne
    go_enter Try.func19, Try.ntmps19
    go_wp2_with fail
    refine (HP.out _).mono ?_
    rintro e w1 ⟨rfl, hb1⟩
    go_wp2_with fail
    refine (HF.out _).mono ?_
    rintro e w2 ⟨rfl, hb2⟩
    go_wp2_with fail
    refine (HT.out _).mono ?_
    rintro e w3 ⟨rfl, hb3⟩
    replace hb3 := bthen (bthen hb1 hb2) hb3
    go_wp2_with fail
    refine (HU.out _).mono ?_
    rintro e w5 ⟨rfl, hb5⟩
    replace hb5 := bthen hb3 hb5
    go_wp2_with fail
    go_ret2
    exact ⟨_, _, rfl, HM.out.symm, hb5⟩
end Go.Proofs.Ytffimpjjdhnajaa
