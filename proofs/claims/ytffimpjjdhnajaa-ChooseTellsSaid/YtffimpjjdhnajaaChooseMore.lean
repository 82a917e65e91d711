/- choose.Check, tenderref27.Check, choose.Open, tenderref03.Same. -/
import Derived.Test.YtffimpjjdhnajaaChooseLives
import Derived.Test.YtffimpjjdhnajaaFenceHeld
import Derived.Test.YtffimpjjdhnajaaNameRefUser
namespace Go.Proofs.Ytffimpjjdhnajaa
open Go.RowKit Go.WideShapes Go.ChangeShapes Go.ChangeAt

def badH (c : HV) : Bool := !userB (tl c.p)
def oddH (c : HV) : Bool := c.w != 1 && c.w != 2
def checkH (l : List HV) : Int := if l.any badH = true then 23 else if l.any oddH = true then 2 else 0
theorem any_take {α : Type} {l : List α} {f : α → Bool} {i : Nat} {a : α} (h : l[i]? = some a) : (l.take (i + 1)).any f = ((l.take i).any f || f a) := by
  obtain ⟨hi, rfl⟩ := List.getElem?_eq_some_iff.1 h
  rw [List.take_succ_eq_append_getElem hi, List.any_append]
  simp
theorem any_at {α : Type} {l : List α} {f : α → Bool} {i : Nat} {a : α} (h : l[i]? = some a) (hf : f a = true) : l.any f = true :=
  List.any_eq_true.2 ⟨a, List.mem_of_getElem? h, hf⟩

set_option maxRecDepth 100000 in
set_option maxHeartbeats 1000000 in
theorem chooseCheck_any (A : Option Addr) (c : Nat) (l : List HV) (Z : Nat → Prop) (w : World) (h : Hvs w Z A l) :
    Calls Try.prog 50 #[.slice A l.length c] w fun e w' => e = .returned (.int .i64 (checkH l)) ∧ Below w.heap.size w w' := by
  obtain ⟨M, hM⟩ : ∃ M, M = checkH l := ⟨_, rfl⟩
  rw [← hM]
  have HM := Lib.hid hM
  clear hM
  have hlen := h.len
  go_enter Try.func50, Try.ntmps50
  go_wp2_with fail
  go_loopw [3, 8] (fun ev iv wr => ∃ (i : Nat) (e : Int), i ≤ l.length ∧ iv = .int .i64 (i : Int) ∧ ev = .int .i64 e ∧ Hid ((l.take i).any badH = false ∧ e = if (l.take i).any oddH = true then 2 else 0) ∧ Below w.heap.size w wr) (fun _ iv _ => l.length - (intOf iv).toNat)
  case atStart => exact ⟨0, 0, Nat.zero_le _, rfl, rfl, ⟨by simp, by simp⟩, Below.refl _ _⟩
  case round =>
    obtain ⟨i, e, hi, rfl, rfl, hs, hb⟩ := hrel
    have hsz := hb.size
    by_cases hlt : i < l.length
    · obtain ⟨b, off, rfl, hz, hbb, c0, c1⟩ := hv_at (h.rd.below hb) hlt
      have HA := Lib.hid (show l[i]? = some l[i] from List.getElem?_eq_getElem hlt)
      have hxp := h.p _ (List.getElem_mem hlt)
      generalize l[i] = x at *
      have HU := Lib.hid (fun w => user_any x.p (by omega) w)
      have HB := Lib.hid (any_take (f := badH) HA.out)
      have HO := Lib.hid (any_take (f := oddH) HA.out)
      have hbx : badH x = !userB (tl x.p) := rfl
      have hox : oddH x = (x.w != 1 && x.w != 2) := rfl
      generalize userB (tl x.p) = U at *
      have bx := Blk.new wr 74 #[.string x.p, .int .i64 x.w]
      have hb2 := hb.alloc hb.size (.cells #[.string x.p, .int .i64 x.w] 74)
      cases U
      · have HR : Hid (M = 23) := by show _ = _; rw [HM.out]; unfold checkH; rw [if_pos (any_at HA.out (by rw [hbx]; rfl))]
        clear hs HB HO hbx hox
        go_wp2_with fail
        refine (HU.out _).mono ?_
        rintro e w2 ⟨rfl, hb3⟩
        have hb4 := hb2.trans (hb3.mono hb2.size)
        clear bx c0 c1 hb3
        go_wp2_with fail
        go_ret
        exact ⟨ret_i HR.out.symm, hb4⟩
      · cases h1 : (x.w != 1)
        · have HS2 : Hid ((l.take (i + 1)).any badH = false ∧ e = if (l.take (i + 1)).any oddH = true then 2 else 0) := ⟨by rw [HB.out, hs.out.1, hbx]; rfl, by rw [HO.out, hox, h1, hs.out.2]; simp⟩
          clear hs HB HO hbx hox
          go_wp2_with fail
          refine (HU.out _).mono ?_
          rintro e w2 ⟨rfl, hb3⟩
          have hb4 := hb2.trans (hb3.mono hb2.size)
          have bx2 := bx.below hb3
          have k0 : w2.cell? ⟨wr.heap.size, 0, none⟩ = some (.string x.p) := bx2.cell 0
          have k1 : w2.cell? ⟨wr.heap.size, 1, none⟩ = some (.int .i64 x.w) := bx2.cell 1
          clear bx c0 c1 hb3 bx2
          go_wp2_with fail
          go_roundw
          case rel => exact ⟨i + 1, e, hlt, by go_num, rfl, HS2, hb4⟩
          case measure => simp [intOf]; omega
        · cases h2 : (x.w != 2)
          · have HS2 : Hid ((l.take (i + 1)).any badH = false ∧ e = if (l.take (i + 1)).any oddH = true then 2 else 0) := ⟨by rw [HB.out, hs.out.1, hbx]; rfl, by rw [HO.out, hox, h1, h2, hs.out.2]; simp⟩
            clear hs HB HO hbx hox
            go_wp2_with fail
            refine (HU.out _).mono ?_
            rintro e w2 ⟨rfl, hb3⟩
            have hb4 := hb2.trans (hb3.mono hb2.size)
            have bx2 := bx.below hb3
            have k0 : w2.cell? ⟨wr.heap.size, 0, none⟩ = some (.string x.p) := bx2.cell 0
            have k1 : w2.cell? ⟨wr.heap.size, 1, none⟩ = some (.int .i64 x.w) := bx2.cell 1
            clear bx c0 c1 hb3 bx2
            go_wp2_with fail
            go_roundw
            case rel => exact ⟨i + 1, e, hlt, by go_num, rfl, HS2, hb4⟩
            case measure => simp [intOf]; omega
          · have HS2 : Hid ((l.take (i + 1)).any badH = false ∧ (2 : Int) = if (l.take (i + 1)).any oddH = true then 2 else 0) := ⟨by rw [HB.out, hs.out.1, hbx]; rfl, by rw [HO.out, hox, h1, h2]; simp⟩
            clear hs HB HO hbx hox
            go_wp2_with fail
            refine (HU.out _).mono ?_
            rintro e w2 ⟨rfl, hb3⟩
            have hb4 := hb2.trans (hb3.mono hb2.size)
            have bx2 := bx.below hb3
            have k0 : w2.cell? ⟨wr.heap.size, 0, none⟩ = some (.string x.p) := bx2.cell 0
            have k1 : w2.cell? ⟨wr.heap.size, 1, none⟩ = some (.int .i64 x.w) := bx2.cell 1
            clear bx c0 c1 hb3 bx2
            go_wp2_with fail
            go_roundw
            case rel => exact ⟨i + 1, 2, hlt, by go_num, rfl, HS2, hb4⟩
            case measure => simp [intOf]; omega
    · have ee : i = l.length := by omega
      subst ee
      have h3 := hs.out
      rw [List.take_length] at h3
      have HR : Hid (M = e) := by show _ = _; rw [HM.out]; unfold checkH; rw [if_neg (by rw [h3.1]; simp), h3.2]
      clear h3 hs
      go_wp2_with fail
      go_ret
      exact ⟨ret_i HR.out.symm, hb⟩

set_option maxRecDepth 100000 in
set_option maxHeartbeats 1000000 in
theorem refCheck27_any (A : Option Addr) (c : Nat) (l : List HV) (Z : Nat → Prop) (w : World) (h : Hvs w Z A l) :
    Calls Try.prog 51 #[.slice A l.length c] w fun e w' => e = .returned (.int .i64 (checkH l)) ∧ Below w.heap.size w w' := by
  obtain ⟨M, hM⟩ : ∃ M, M = checkH l := ⟨_, rfl⟩
  rw [← hM]
  have HM := Lib.hid hM
  clear hM
  have hlen := h.len
  go_enter Try.func51, Try.ntmps51
  go_wp2_with fail
  go_loopw [3] (fun iv wr => ∃ (i : Nat), i ≤ l.length ∧ iv = .int .i64 (i : Int) ∧ Hid ((l.take i).any badH = false) ∧ Below w.heap.size w wr) (fun iv _ => l.length - (intOf iv).toNat)
  case atStart => exact ⟨0, Nat.zero_le _, rfl, by show _ = _; simp, Below.refl _ _⟩
  case round =>
    obtain ⟨i, hi, rfl, hs, hb⟩ := hrel
    have hsz := hb.size
    by_cases hlt : i < l.length
    · obtain ⟨b, off, rfl, hz, hbb, c0, c1⟩ := hv_at (h.rd.below hb) hlt
      have HA := Lib.hid (show l[i]? = some l[i] from List.getElem?_eq_getElem hlt)
      have hxp := h.p _ (List.getElem_mem hlt)
      generalize l[i] = x at *
      have HU := Lib.hid (fun w => refUser_any x.p (by omega) w)
      have HB := Lib.hid (any_take (f := badH) HA.out)
      have hbx : badH x = !userB (tl x.p) := rfl
      generalize userB (tl x.p) = U at *
      cases U
      · have HR : Hid (M = 23) := by show _ = _; rw [HM.out]; unfold checkH; rw [if_pos (any_at HA.out (by rw [hbx]; rfl))]
        clear hs HB hbx
        go_wp2_with fail
        refine (HU.out _).mono ?_
        rintro e w2 ⟨rfl, hb3⟩
        have hb4 := hb.trans (hb3.mono hb.size)
        clear c0 c1 hb3
        go_wp2_with fail
        go_ret
        exact ⟨ret_i HR.out.symm, hb4⟩
      · have HS2 : Hid ((l.take (i + 1)).any badH = false) := by show _ = _; rw [HB.out, hs.out, hbx]; rfl
        clear hs HB hbx
        go_wp2_with fail
        refine (HU.out _).mono ?_
        rintro e w2 ⟨rfl, hb3⟩
        have hb4 := hb.trans (hb3.mono hb.size)
        clear c0 c1 hb3
        go_wp2_with fail
        go_roundw
        case rel => exact ⟨i + 1, hlt, by go_num, HS2, hb4⟩
        case measure => simp [intOf]; omega
    · have ee : i = l.length := by omega
      subst ee
      have h3 := hs.out
      rw [List.take_length] at h3
      have H3 := Lib.hid h3
      clear h3 hs hlt
      obtain ⟨wp, rfl⟩ : ∃ wp : World, wp = wr := ⟨_, rfl⟩
      go_wp2_with fail
      go_loopw [4] (fun iv wr => ∃ (i : Nat), i ≤ l.length ∧ iv = .int .i64 (i : Int) ∧ Hid ((l.take i).any oddH = false) ∧ Below wp.heap.size wp wr) (fun iv _ => l.length - (intOf iv).toNat)
      case atStart => exact ⟨0, Nat.zero_le _, rfl, by show _ = _; simp, Below.refl _ _⟩
      case round =>
        obtain ⟨i, hi, rfl, hs, hb5⟩ := hrel
        have hb6 := hb.trans (hb5.mono hb.size)
        by_cases hlt : i < l.length
        · obtain ⟨b, off, rfl, hz, hbb, c0, c1⟩ := hv_at (h.rd.below hb6) hlt
          have HA := Lib.hid (show l[i]? = some l[i] from List.getElem?_eq_getElem hlt)
          generalize l[i] = x at *
          have HO := Lib.hid (any_take (f := oddH) HA.out)
          have hox : oddH x = (x.w != 1 && x.w != 2) := rfl
          cases h1 : (x.w != 1)
          · have HS2 : Hid ((l.take (i + 1)).any oddH = false) := by show _ = _; rw [HO.out, hs.out, hox, h1]; rfl
            clear hs HO hox
            go_wp2_with fail
            go_roundw
            case rel => exact ⟨i + 1, hlt, by go_num, HS2, hb5⟩
            case measure => simp [intOf]; omega
          · cases h2 : (x.w != 2)
            · have HS2 : Hid ((l.take (i + 1)).any oddH = false) := by show _ = _; rw [HO.out, hs.out, hox, h1, h2]; rfl
              clear hs HO hox
              go_wp2_with fail
              go_roundw
              case rel => exact ⟨i + 1, hlt, by go_num, HS2, hb5⟩
              case measure => simp [intOf]; omega
            · have HR : Hid (M = 2) := by show _ = _; rw [HM.out]; unfold checkH; rw [if_neg (by rw [H3.out]; simp), if_pos (any_at HA.out (by rw [hox, h1, h2]; rfl))]
              clear hs HO hox
              go_wp2_with fail
              go_ret
              exact ⟨ret_i HR.out.symm, hb6⟩
        · have ee : i = l.length := by omega
          subst ee
          have h4 := hs.out
          rw [List.take_length] at h4
          have HR : Hid (M = 0) := by show _ = _; rw [HM.out]; unfold checkH; rw [if_neg (by rw [H3.out]; simp), if_neg (by rw [h4]; simp)]
          clear h4 hs
          go_wp2_with fail
          go_ret
          exact ⟨ret_i HR.out.symm, hb6⟩
end Go.Proofs.Ytffimpjjdhnajaa
