/- grain.Pen.Text, and pens that are none. -/
import Derived.Test.YtpbgcbpofhbgbaaPen
namespace Go.Proofs.Ytpbgcbpofhbgbaa
open Go.RowKit

/-- bytes that texts take at most -/
def wide (bs : List BV) : Nat := (bs.map fun x => 9 + x.l.length).sum
theorem wide_take (bs : List BV) (i : Nat) (hi : i < bs.length) : (bs.take i |>.flatMap fun x => textB x.l).length + (9 + bs[i].l.length) ≤ wide bs := by
  have h1 : ∀ cs : List BV, (cs.flatMap fun x => textB x.l).length ≤ wide cs := by
    intro cs
    induction cs with
    | nil => simp [wide]
    | cons x cs ih =>
      have := numB_len x.l.length
      simp only [wide, List.flatMap_cons, List.length_append, List.map_cons, List.sum_cons, textB] at ih ⊢
      omega
  have h2 := h1 (bs.take i)
  have h3 : wide (bs.take i) + (9 + bs[i].l.length) ≤ wide bs := by
    have e : bs = bs.take i ++ bs[i] :: bs.drop (i + 1) := by simp
    have e2 : wide bs = wide (bs.take i ++ bs[i] :: bs.drop (i + 1)) := congrArg wide e
    rw [e2]
    simp only [wide, List.map_append, List.map_cons, List.sum_append, List.sum_cons]
    omega
  omega

theorem wide_len : ∀ bs : List BV, bs.length ≤ wide bs
  | [] => by simp
  | x :: bs => by
    have := wide_len bs
    simp only [wide, List.map_cons, List.sum_cons, List.length_cons] at this ⊢
    omega
theorem hid_text {L L1 n r : List UInt8} (h : L1 ++ n = r) (h' : L = L1 ++ n) : Hid (L = r) := by rw [h', h]; rfl

set_option maxHeartbeats 400000 in
theorem Text_any (base pb : Nat) (v : Value) (l : List UInt8) (A : Option Addr) (c : Nat) (bs : List BV) (Z : Nat → Prop) (w : World) (hp : Pen w base pb v l) (hr : Rd w Z 1 A bs.length (bs.map BV.v)) (hok : ∀ x ∈ bs, x.ok w Z)
    (hZ : ∀ b, b < w.heap.size → Z b → ¬ (b = pb ∨ v.ownBlock = some b)) (hbase : base ≤ w.heap.size) (hlen : l.length + wide bs ≤ 140737488355328) :
    Calls Try.prog 72 #[.pointer (some ⟨pb, 0, none⟩), .slice A bs.length c] w fun e w' => e = .returned (.tuple #[]) ∧ ∃ v', PenTo w base pb v (l ++ bs.flatMap fun x => textB x.l) w' v' := by
  have hbl := wide_len bs
  go_enter Try.func72, Try.ntmps72
  go_wp2_with fail
  go_loopw [10] (fun iv wr => ∃ (i : Nat) (Li : List UInt8) (v' : Value), i ≤ bs.length ∧ iv = .int .i64 (i : Int) ∧ PenTo w base pb v Li wr v' ∧ Hid (Li = l ++ (bs.take i).flatMap fun x => textB x.l)) (fun iv _ => bs.length - (intOf iv).toNat)
  case atStart => exact ⟨0, l, v, Nat.zero_le _, rfl, PenTo.refl hp, by show l = _; simp⟩
  case round =>
    obtain ⟨i, Li, v', hi, rfl, hpi, hLi⟩ := hrel
    have hsz := hpi.fr.size
    by_cases hlt : i < bs.length
    · obtain ⟨b, off, rfl, _, _, hc⟩ := (hr.fr hpi.fr hZ).atm hlt
      have hxok := (hok _ (List.getElem_mem hlt))
      have hw := wide_take bs i hlt
      have hll : Li.length = l.length + ((bs.take i).flatMap fun x => textB x.l).length := by rw [hLi.out, List.length_append]
      have hll2 : Li.length + (9 + bs[i].l.length) ≤ 140737488355328 := by omega
      have hLn := flat_take hlt hLi.out
      have HLn := Lib.hid hLn
      clear hLn hll hw
      generalize bs[i] = x at hc HLn hxok hll2
      obtain ⟨xA, xc, xl⟩ := x
      dsimp only at HLn hxok hll2
      replace hc : wr.cell? ⟨b, off + i, none⟩ = some (.slice xA xl.length xc) := hc
      go_wp2_with fail
      refine (num_any base pb v' Li xl.length _ hpi.pen (by omega) (by omega) (by omega)).mono ?_
      rintro e w1 ⟨rfl, v1, h1⟩
      have hL1 : (Li ++ numB xl.length).length ≤ Li.length + 9 := by have := numB_len xl.length; rw [List.length_append]; omega
      replace HLn : Hid ((Li ++ numB xl.length) ++ xl = l ++ (bs.take (i + 1)).flatMap fun x => textB x.l) := by
        show _ = _
        rw [List.append_assoc]
        exact HLn.out
      generalize Li ++ numB xl.length = L1 at h1 hL1 HLn
      have hp1 := hpi.trans h1
      obtain ⟨A1, c1, rfl, hlc1, hcm1, hA1⟩ := h1.pen.own.form
      have hc1 := h1.pen.cell
      have hx1 : By w1 Z xA xl := (hxok.fr hp1.fr hZ).by_
      go_wp2_with (at_builtin; refine wpList_append_by rfl (.tmp 23) (.tmp 24) rfl (v := .slice A1 L1.length c1) rfl h1.pen.own rfl hx1 (by omega) (by have := hp1.fr.size; omega) ?_; intro L2 A2 c2 w2 hL2 hown hg hat; have hst := PenTo.stored h1.pen (Below.refl _ _) hown hg hat; have hb2 := h1.pen.blk.grown hg h1.pen.ne; have hc2 : w2.cell? ⟨pb, 0, none⟩ = some (.slice A1 L1.length c1) := hb2.cell 0; have hf2 : w2.frozen? ⟨pb, 0, none⟩ = false := hb2.frozen 0)
      go_roundw
      case rel => exact ⟨i + 1, L2, _, hlt, by go_num, hp1.trans hst, hid_text HLn.out hL2.out⟩
      case measure => simp [intOf]; omega
    · have e : i = bs.length := by omega
      go_wp2_with fail
      go_end0
      subst e
      refine ⟨rfl, v', ?_⟩
      have hL : Li = l ++ bs.flatMap fun x => textB x.l := by rw [hLi.out, List.take_length]
      rw [← hL]
      exact hpi

set_option maxHeartbeats 400000 in
theorem Text_nil (A : Option Addr) (n c : Nat) (w : World) : Calls Try.prog 72 #[.pointer none, .slice A n c] w fun e w' => e = .returned (.tuple #[]) ∧ w = w' := by
  go_enter Try.func72, Try.ntmps72
  go_wp2_with fail
  refine bodyPost_ret (results_none rfl _ _ _) rfl ?_
  exact ⟨rfl, rfl⟩

end Go.Proofs.Ytpbgcbpofhbgbaa
