/- script.path and tenderref41.path: the path of a number. -/
import Derived.Test.YtpbgcbpofhbgbaaClone
import Derived.Test.YtpbgcbpofhbgbaaRow
import Derived.Test.YtpbgcbpofhbgbaaFlat
import Derived.IntWalk
namespace Go.Proofs.Ytpbgcbpofhbgbaa
open Go.RowKit

def abcdV : ByteArray := ⟨#[97, 98, 99, 100]⟩
def pathV (n : Nat) : ByteArray := if n / 4 % 2 = 1 then abcdV.extract (n % 4) (n % 4 + 1) ++ (⟨#[47]⟩ ++ abcdV.extract (n / 8 % 4) (n / 8 % 4 + 1)) else abcdV.extract (n % 4) (n % 4 + 1)
theorem abcd_size (i : Nat) : (abcdV.extract i (i + 1)).size ≤ 1 := by
  rw [ByteArray.size_extract]
  omega
theorem pathV_size (n : Nat) : (pathV n).size ≤ 3 := by
  have h1 := abcd_size (n % 4)
  have h2 := abcd_size (n / 8 % 4)
  unfold pathV
  split
  · rw [ByteArray.size_append, ByteArray.size_append]
    have : (⟨#[47]⟩ : ByteArray).size = 1 := rfl
    omega
  · omega
theorem tmod_nat (n k : Nat) : (n : Int).tmod (k : Int) = ((n % k : Nat) : Int) := by
  rw [Int.tmod_eq_emod_of_nonneg (by omega)]
  omega
theorem tdiv_nat (n k : Nat) : (n : Int).tdiv (k : Int) = ((n / k : Nat) : Int) := by
  rw [Int.tdiv_eq_ediv_of_nonneg (by omega)]
  omega

theorem path_any (n : Nat) (hn : n < 1000000) (w : World) : Calls Try.prog 84 #[.int .i64 (n : Int)] w fun e w' => e = .returned (.string (pathV n)) ∧ w = w' := by
  obtain ⟨P, hP⟩ : ∃ P, P = pathV n := ⟨_, rfl⟩
  rw [← hP]
  have HP := Lib.hid hP
  clear hP
  go_enter Try.func84, Try.ntmps84
  go_wp2_with fail
  · rename_i h
    obtain rfl : P = abcdV.extract (n % 4) (n % 4 + 1) ++ (⟨#[47]⟩ ++ abcdV.extract (n / 8 % 4) (n / 8 % 4 + 1)) := by rw [HP.out]; unfold pathV; rw [if_pos (by simp at h; omega)]
    go_ret
    exact ⟨rfl, rfl⟩
  · rename_i h
    obtain rfl : P = abcdV.extract (n % 4) (n % 4 + 1) := by rw [HP.out]; unfold pathV; rw [if_neg (by simp at h; omega)]
    go_ret
    exact ⟨rfl, rfl⟩
theorem pathR_any (n : Nat) (hn : n < 1000000) (w : World) : Calls Try.prog 60 #[.int .i64 (n : Int)] w fun e w' => e = .returned (.string (pathV n)) ∧ w = w' := by
  obtain ⟨P, hP⟩ : ∃ P, P = pathV n := ⟨_, rfl⟩
  rw [← hP]
  have HP := Lib.hid hP
  clear hP
  go_enter Try.func60, Try.ntmps60
  go_wp2_with fail
  · rename_i h
    obtain rfl : P = abcdV.extract (n % 4) (n % 4 + 1) ++ ⟨#[47]⟩ ++ abcdV.extract (n / 8 % 4) (n / 8 % 4 + 1) := by rw [HP.out]; unfold pathV; rw [if_pos (by simp at h; omega)]; rw [← ByteArray.append_assoc]
    go_ret
    exact ⟨rfl, rfl⟩
  · rename_i h
    obtain rfl : P = abcdV.extract (n % 4) (n % 4 + 1) := by rw [HP.out]; unfold pathV; rw [if_neg (by simp at h; omega)]
    go_ret
    exact ⟨rfl, rfl⟩
/-- the bytes of an edit of two numbers -/
def dataI (k p i : Nat) : List UInt8 := (List.range i).map fun j => UInt8.ofNat (p + j * k)
def dataV (k p : Nat) : List UInt8 := dataI k p (k / 8)
theorem dataI_succ (k p i : Nat) : dataI k p (i + 1) = dataI k p i ++ [UInt8.ofNat (p + i * k)] := by
  unfold dataI
  rw [List.range_succ, List.map_append]
  rfl
theorem dataI_len (k p i : Nat) : (dataI k p i).length = i := by simp [dataI]
theorem bv_wrap (m : Nat) : bv (UInt8.ofNat m) = .int .u8 (IntKind.u8.wrap (m : Int)) := by
  unfold bv
  rw [UInt8.toNat_ofNat']
  congr 1

set_option maxHeartbeats 400000 in
theorem edited_any (k p : Nat) (hk : k < 256) (hp : p < 256) (w : World) : Calls Try.prog 83 #[.int .i64 (k : Int), .int .i64 (p : Int)] w fun e w' => ∃ (A : Option Addr) (c : Nat) (L : List UInt8),
    e = .returned (.agg #[.int .i64 ((1 + k % 5 : Nat) : Int), .string (pathV p), .string (pathV (p / 16)), .slice A L.length c]) ∧ Hid (L = dataV k p) ∧ OwB w' w.heap.size (.slice A L.length c) L ∧ Below w.heap.size w w' := by
  have HP := Lib.hid (fun w => path_any p (by omega) w)
  have HQ : Hid (∀ w, Calls Try.prog 84 #[.int .i64 ((p : Int) / 16)] w fun e w' => e = .returned (.string (pathV (p / 16))) ∧ w = w') := by
    intro w
    have h := path_any (p / 16) (by omega) w
    rw [show ((p / 16 : Nat) : Int) = (p : Int) / 16 by omega] at h
    exact h
  generalize pathV p = P at *
  generalize pathV (p / 16) = Q at *
  go_enter Try.func83, Try.ntmps83
  go_wp2_with (first | (go_at_call 84; first | (with_reducible refine (HP.out _).mono ?_; rintro e w2 ⟨rfl, rfl⟩) | (with_reducible refine (HQ.out _).mono ?_; rintro e w2 ⟨rfl, rfl⟩)))
  have hn : k / 8 < 32 := by omega
  go_loopw [18] (fun iv wr => ∃ (i : Nat) (L : List UInt8) (A : Option Addr) (c : Nat), i ≤ k / 8 ∧ iv = .int .i64 (i : Int) ∧ Hid (L = dataI k p i) ∧ Blk wr (w.heap.size + 1) 53 #[.int .i64 (1 + (k : Int) % 5), .string P, .string Q, .slice A L.length c] ∧
    Blk wr w.heap.size 53 #[.int .i64 0, .string ⟨#[]⟩, .string ⟨#[]⟩, .slice none 0 0] ∧ OwB wr w.heap.size (.slice A L.length c) L ∧ Below w.heap.size w wr) (fun iv _ => k / 8 - (intOf iv).toNat)
  case atStart => exact ⟨0, [], none, 0, Nat.zero_le _, rfl, rfl, by simpa using Blk.new (w.alloc _) 53 _, (Blk.new w 53 _).alloc _, OwB.nil _ _, (by repeat (first | exact Below.refl _ _ | refine Below.alloc ?_ (by simp) _ | refine Below.setCell ?_ (by simp) _ | refine Below.drew ?_))⟩
  case round =>
    obtain ⟨i, L, A, c, hi, rfl, hL, hx, hr, ho, hb⟩ := hrel
    have hsz := hx.lt
    by_cases hlt : i < k / 8
    · have c3 : wr.cell? ⟨w.heap.size + 1, 3, none⟩ = some (.slice A L.length c) := hx.cell 3
      have f3 := hx.frozen 3
      have hll : L.length = i := by rw [hL.out, dataI_len]
      have Hll := Lib.hid hll
      clear hll
      have w1 : ((i : Int) * (k : Int)) = ((i * k : Nat) : Int) := by simp
      have w0 : i * k ≤ 32 * 256 := Nat.mul_le_mul (by omega) (by omega)
      have hbv := bv_wrap (p + i * k)
      have hsu := Lib.hid (dataI_succ k p i)
      generalize hm : i * k = m at *
      have Hm := Lib.hid hm
      clear hm
      go_wp2_with (at_builtin; refine wpList_append_by rfl (.tmp 22) (.tmp 29) rfl (v := .slice A L.length c) rfl (ho.alloc _) rfl (OwB.lit1 wr (base := 0) (b := UInt8.ofNat (p + m)) (by rw [hbv]; rfl) (by omega)).rd (by have := Hll.out; simp; omega) (by simp; omega) ?_; intro L3 A3 c3' w3 hL3 hown3 hg3 hat3; have hx3 := (hx.alloc _).grown hg3 (Blk.own_ne hx ho (by decide)); have hr3 := (hr.alloc _).grown hg3 (Blk.own_ne hr ho (by decide)); have c3n : w3.cell? ⟨w.heap.size + 1, 3, none⟩ = some (.slice A L.length c) := hx3.cell 3; have f3n := hx3.frozen 3)
      have fr3 := Fr.of_grown hg3 (S := fun k => w.heap.size ≤ k) (fun k _ e => (ho.lt k e).1)
      have hb3 := (hb.alloc (by omega) _).trans (fr3.below (by simp; omega) (fun k hk e => by omega))
      have hne3 := Blk.own_ne hx3 hown3 (by decide)
      have hx4 := hx3.set_ 3 (.slice A3 L3.length c3')
      have fr4 : Fr (fun k => k = w.heap.size + 1) w3 (w3.setCell ⟨w.heap.size + 1, 3, none⟩ (.slice A3 L3.length c3')) := (Fr.refl (fun k => k = w.heap.size + 1) w3).setAt _ 3 rfl _
      go_roundw
      case rel => exact ⟨i + 1, L3, A3, c3', hlt, by go_num, by show _ = _; rw [hL3.out, hL.out, hsu.out], by simpa using hx4, hr3.fr fr4 (by omega), hown3.fr fr4 (fun g hg e => hne3 (by rw [hg, e])), hb3.trans (fr4.below hb3.size (fun k hk e => by omega))⟩
      case measure => simp [intOf]; omega
    · have e : i = k / 8 := by omega
      subst e
      have d0 : wr.cell? ⟨w.heap.size + 1, 0, none⟩ = some (.int .i64 (1 + (k : Int) % 5)) := hx.cell 0
      have d1 : wr.cell? ⟨w.heap.size + 1, 1, none⟩ = some (.string P) := hx.cell 1
      have d2 : wr.cell? ⟨w.heap.size + 1, 2, none⟩ = some (.string Q) := hx.cell 2
      have d3 : wr.cell? ⟨w.heap.size + 1, 3, none⟩ = some (.slice A L.length c) := hx.cell 3
      have e0 : wr.cell? ⟨w.heap.size, 0, none⟩ = some (.int .i64 0) := hr.cell 0
      have e1 : wr.cell? ⟨w.heap.size, 1, none⟩ = some (.string ⟨#[]⟩) := hr.cell 1
      have e2 : wr.cell? ⟨w.heap.size, 2, none⟩ = some (.string ⟨#[]⟩) := hr.cell 2
      have e3 : wr.cell? ⟨w.heap.size, 3, none⟩ = some (.slice none 0 0) := hr.cell 3
      have q0 := hr.frozen 0
      have q1 := hr.frozen 1
      have q2 := hr.frozen 2
      have q3 := hr.frozen 3
      go_wp2_with fail
      have hv := (((hr.set_ 0 (.int .i64 (1 + (k : Int) % 5))).set_ 1 (.string P)).set_ 2 (.string Q)).set_ 3 (.slice A L.length c)
      have fv : Fr (fun g => g = w.heap.size) wr ((((wr.setCell ⟨w.heap.size, 0, none⟩ (.int .i64 (1 + (k : Int) % 5))).setCell ⟨w.heap.size, 1, none⟩ (.string P)).setCell ⟨w.heap.size, 2, none⟩ (.string Q)).setCell ⟨w.heap.size, 3, none⟩ (.slice A L.length c)) :=
        ((((Fr.refl (fun g => g = w.heap.size) wr).setAt _ 0 rfl _).setAt _ 1 rfl _).setAt _ 2 rfl _).setAt _ 3 rfl _
      have hne := Blk.own_ne hr ho (by decide)
      have hov := ho.fr fv (fun g hg e => hne (by rw [hg, e]))
      have hbv := hb.trans (fv.below (by omega) (fun k hk e => by omega))
      simp only [List.setIfInBounds_toArray, List.set_cons_zero, List.set_cons_succ] at hv
      generalize (((wr.setCell ⟨w.heap.size, 0, none⟩ (.int .i64 (1 + (k : Int) % 5))).setCell ⟨w.heap.size, 1, none⟩ (.string P)).setCell ⟨w.heap.size, 2, none⟩ (.string Q)).setCell ⟨w.heap.size, 3, none⟩ (.slice A L.length c) = V at *
      clear d0 d1 d2 d3 e0 e1 e2 e3 q0 q1 q2 q3 fv
      have d0 : V.cell? ⟨w.heap.size, 0, none⟩ = some (.int .i64 (1 + (k : Int) % 5)) := hv.cell 0
      have d1 : V.cell? ⟨w.heap.size, 1, none⟩ = some (.string P) := hv.cell 1
      have d2 : V.cell? ⟨w.heap.size, 2, none⟩ = some (.string Q) := hv.cell 2
      have d3 : V.cell? ⟨w.heap.size, 3, none⟩ = some (.slice A L.length c) := hv.cell 3
      refine bodyPost_ret (v := .agg #[.int .i64 (1 + (k : Int) % 5), .string P, .string Q, .slice A L.length c]) (by simp [results, Try.results83, go_sem, d0, d1, d2, d3]) rfl ?_
      exact ⟨A, c, L, by simp, hL, hov, hbv⟩
end Go.Proofs.Ytpbgcbpofhbgbaa
