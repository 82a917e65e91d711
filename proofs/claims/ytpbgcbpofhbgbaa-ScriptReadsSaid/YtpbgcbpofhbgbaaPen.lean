/- grain.Pen: Num, Truth, Text, Bytes; bytes.Clone. -/
import Derived.Test.YtpbgcbpofhbgbaaPenNum
import Derived.Test.YtpbgcbpofhbgbaaClone
namespace Go.Proofs.Ytpbgcbpofhbgbaa
open Go.RowKit

theorem flat_take {α : Type} {f : α → List UInt8} {L l : List UInt8} {ns : List α} {i : Nat} (hi : i < ns.length) (h : L = l ++ (ns.take i).flatMap f) : L ++ f ns[i] = l ++ (ns.take (i + 1)).flatMap f := by
  rw [h, List.take_succ_eq_append_getElem hi, List.flatMap_append, List.append_assoc]
  simp
theorem flat9 : ∀ (ns : List Nat), (ns.flatMap numB).length ≤ 9 * ns.length
  | [] => by simp
  | n :: ns => by
    have h1 := numB_len n
    have h2 := flat9 ns
    simp only [List.flatMap_cons, List.length_append, List.length_cons]
    omega
theorem flat9t (ns : List Nat) (i : Nat) : ((ns.take i).flatMap numB).length ≤ 9 * i := by
  have h := flat9 (ns.take i)
  have h2 := List.length_take_le i ns
  omega

set_option maxHeartbeats 400000 in
theorem Num_any (base pb : Nat) (v : Value) (l : List UInt8) (A : Option Addr) (c : Nat) (ns : List Nat) (Z : Nat → Prop) (w : World) (hp : Pen w base pb v l) (hr : Rd w Z 1 A ns.length (ns.map u64v))
    (hZ : ∀ b, b < w.heap.size → Z b → ¬ (b = pb ∨ v.ownBlock = some b)) (hn : ∀ n ∈ ns, n < 18446744073709551616) (hbase : base ≤ w.heap.size) (hlen : l.length + 9 * ns.length ≤ 140737488355328) :
    Calls Try.prog 71 #[.pointer (some ⟨pb, 0, none⟩), .slice A ns.length c] w fun e w' => e = .returned (.tuple #[]) ∧ ∃ v', PenTo w base pb v (l ++ ns.flatMap numB) w' v' := by
  go_enter Try.func71, Try.ntmps71
  go_wp2_with fail
  go_loopw [10] (fun iv wr => ∃ (i : Nat) (Li : List UInt8) (v' : Value), i ≤ ns.length ∧ iv = .int .i64 (i : Int) ∧ PenTo w base pb v Li wr v' ∧ Hid (Li = l ++ (ns.take i).flatMap numB)) (fun iv _ => ns.length - (intOf iv).toNat)
  case atStart => exact ⟨0, l, v, Nat.zero_le _, rfl, PenTo.refl hp, by show l = _; simp⟩
  case round =>
    obtain ⟨i, Li, v', hi, rfl, hpi, hLi⟩ := hrel
    have hsz := hpi.fr.size
    by_cases hlt : i < ns.length
    · obtain ⟨b, off, rfl, _, _, hc⟩ := (hr.fr hpi.fr hZ).atm hlt
      have hx := hn _ (List.getElem_mem hlt)
      have hll : Li.length ≤ l.length + 9 * i := by rw [hLi.out, List.length_append]; have := flat9t ns i; omega
      have hLn := flat_take hlt hLi.out
      have HLn := Lib.hid hLn
      clear hLn
      generalize ns[i] = x at hc hx HLn
      unfold u64v at hc
      go_wp2_with (go_at_call 95; refine (num_any base pb v' Li x _ hpi.pen (by omega) hx (by omega)).mono ?_; rintro e w1 ⟨rfl, v1, h1⟩)
      go_roundw
      case rel => exact ⟨i + 1, _, v1, hlt, by go_num, hpi.trans h1, HLn⟩
      case measure => simp [intOf]; omega
    · have e : i = ns.length := by omega
      go_wp2_with fail
      go_end0
      subst e
      refine ⟨rfl, v', ?_⟩
      have hL : Li = l ++ ns.flatMap numB := by rw [hLi.out, List.take_length]
      rw [← hL]
      exact hpi

set_option maxHeartbeats 400000 in
theorem Num_nil (A : Option Addr) (n c : Nat) (w : World) : Calls Try.prog 71 #[.pointer none, .slice A n c] w fun e w' => e = .returned (.tuple #[]) ∧ w = w' := by
  go_enter Try.func71, Try.ntmps71
  go_wp2_with fail
  refine bodyPost_ret (results_none rfl _ _ _) rfl ?_
  exact ⟨rfl, rfl⟩

set_option maxHeartbeats 400000 in
theorem Bytes_any (base pb : Nat) (v : Value) (l : List UInt8) (w : World) (hp : Pen w base pb v l) (hlen : l.length ≤ 140737488355328) :
    Calls Try.prog 73 #[.pointer (some ⟨pb, 0, none⟩)] w fun e w' => ∃ (A' : Option Addr) (c' : Nat) (l' : List UInt8), e = .returned (.slice A' l'.length c') ∧ Hid (l' = l) ∧ OwB w' w.heap.size (.slice A' l'.length c') l' ∧ Below w.heap.size w w' := by
  have hc := hp.cell
  obtain ⟨A, c, rfl, hlc, hcm, hA⟩ := hp.own.form
  go_enter Try.func73, Try.ntmps73
  go_wp2_with fail
  refine (clone_any A c l _ _ hp.own.rd hlen).mono ?_
  rintro e w1 ⟨A', c', l', rfl, hx, ho, hb⟩
  go_wp2_with fail
  go_ret
  exact ⟨A', c', l', rfl, hx, ho, hb⟩

set_option maxHeartbeats 400000 in
theorem Bytes_nil (w : World) : Calls Try.prog 73 #[.pointer none] w fun e w' => e = .returned (.slice none 0 0) ∧ w = w' := by
  go_enter Try.func73, Try.ntmps73
  go_wp2_with fail
  go_ret
  exact ⟨rfl, rfl⟩

end Go.Proofs.Ytpbgcbpofhbgbaa
