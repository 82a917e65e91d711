/- LeafReads is true for every input: what is read of any bytes, and the fault, is the document's. No condition beyond the row's own. -/
import Derived.Test.YtofllgmieciakabLeafReadR
import Derived.Test.YtofllgmieciakabLeafLives
namespace Go.Proofs.Ytofllgmieciakab
open Go.RowKit Go.WideShapes Go.ChangeShapes Go.ChangeAt

theorem leafSameRN_any (k j : Int) (A B : Option Addr) (c d n : Nat) (l m : List UInt8) (Z Z' : Nat → Prop) (w : World) (hl : By w Z A l) (hm : Rd w Z' 1 B n (m.map bv)) (hn : n = m.length) :
    Calls Try.prog 14 #[.agg #[.int .i64 k, .slice A l.length c], .agg #[.int .i64 j, .slice B n d]] w fun e w' => e = .returned (.bool (k == j && l == m)) ∧ Below w.heap.size w w' := by
  subst hn
  exact leafSameR_any k j A B c d l m Z Z' w hl hm
def lrRel (w0 : World) (e1 e2 n : Nat) (iv : Value) (wr : World) : Prop :=
  ∃ (i : Nat) (L : List UInt8) (f : Int), i ≤ n ∧ iv = .int .i64 (i : Int) ∧ TwoE w0 wr e1 e2 L f L f ∧ L.length ≤ 5000

set_option maxHeartbeats 400000 in
theorem leafReads_far (x : BV) (n : Int) (w : World) (hl : 5000 < x.l.length) :
    Calls Try.prog 4 #[.slice x.A x.l.length x.c, .int .u8 n] w fun e w' => e = .returned (.bool true) ∧ Below w.heap.size w w' := by
  go_enter Try.func4, Try.ntmps4
  go_wp2_with fail
  refine (lives07_any _).mono ?_
  rintro e w1 ⟨rfl, hb1⟩
  go_wp2_with fail
  go_ret
  exact ⟨rfl, hb1⟩

set_option maxHeartbeats 4000000 in
theorem leafReads_near (x : BV) (n : Int) (w : World) (hx : x.ok w (fun b => b < w.heap.size)) (hl : ¬ 5000 < x.l.length) (h0 : 0 ≤ n) (h1 : n < 256) :
    Calls Try.prog 4 #[.slice x.A x.l.length x.c, .int .u8 n] w fun e w' => e = .returned (.bool true) ∧ Below w.heap.size w w' := by
  obtain ⟨xA, xc, xl⟩ := x
  obtain ⟨hby, hlc, hcm⟩ := hx
  dsimp only at *
  have t1 : n.tmod 5 = n % 5 := Int.tmod_eq_emod_of_nonneg h0
  have t2 : IntKind.i64.wrap (n % 5) = n % 5 := IntWalk.i64_in _ (by omega)
  have t3 : 0 ≤ n % 5 := by omega
  have t4 : n % 5 < 5 := by omega
  go_enter Try.func4, Try.ntmps4
  go_wp2_with fail
  refine (open_any xA xc xl.length w).mono ?_
  rintro e w2 ⟨rfl, rfl⟩
  have he1 := EyeAt.new w (T := 76) hby hlc hcm
  have he2 := EyeAt.new (w.alloc (.cells #[.slice xA xl.length xc, .int .i64 0] 76)) (T := 41) (hby.alloc _) hlc hcm
  have hT : TwoE w ((w.alloc (.cells #[.slice xA xl.length xc, .int .i64 0] 76)).alloc (.cells #[.slice xA xl.length xc, .int .i64 0] 41)) w.heap.size (w.heap.size + 1) xl 0 xl 0 :=
    ⟨⟨xA, xc, he1.below ((Below.refl _ _).alloc (Nat.le_refl _) _)⟩, ⟨xA, xc, by simpa using he2⟩, ((Below.refl _ _).alloc (Nat.le_refl _) _).alloc (by simp) _, Nat.le_refl _, by omega, by omega, by simp; omega⟩
  go_wp2_with fail
  obtain ⟨m, hm⟩ : ∃ m : Nat, n % 5 = m := ⟨(n % 5).toNat, by omega⟩
  rw [hm] at t3 t4 ⊢
  clear t1 t2
  go_loopw [21] (fun iv wr => lrRel w w.heap.size (w.heap.size + 1) m iv wr) (fun iv _ => m - (intOf iv).toNat)
  case atStart => exact ⟨0, xl, 0, Nat.zero_le _, rfl, hT, by omega⟩
  case round =>
    obtain ⟨i, L, f, hi, rfl, hT, hL⟩ := hrel
    by_cases hlt : i < m
    · have z1 := hT.z1
      have z2 := hT.z2
      have hrl := leafS_len L f
      generalize hr : leafS L f = r at hrl
      obtain ⟨k, t, L', f'⟩ := r
      dsimp only at hrl
      have HR := Lib.hid hr
      clear hr
      go_wp2_with fail
      have hlow := hT.low
      go_region_with
        (first
        | (go_at_call 21; obtain ⟨A2, c2, ha2⟩ := hT.drew.a; refine (leafRead_any w.heap.size _ A2 c2 L f _ ha2 z1 (by omega)).mono ?_; rw [HR.out]; rintro e w3 ⟨A3, c3, l3, rfl, hl3, ho3, hk⟩; have hT3 := hT.drew.left hk)
        | (go_at_call 22; obtain ⟨B2, d2, hb2⟩ := hT3.b; refine (leafReadR_any (w.heap.size + 1) _ B2 d2 L f _ hb2 z2).mono ?_; rw [HR.out]; rintro e w4 ⟨A5, n5, c5, rfl, hn5, hr5, _, _, hk2⟩; have hT4 := hT3.right hk2; have hy3 := ho3.rd.fr hk2.fr (fun b _ hb e => absurd (own_ablk ho3 b hb).1 (by have hq := hT.bs; obtain ⟨B9, d9, hb9⟩ := hT.b; have := hb9.1.lt; simp; omega)))
        | (go_at_call 14; refine (leafSameRN_any k k A3 A5 c3 c5 n5 l3 t _ _ _ hy3 hr5 hn5.out).mono ?_; rw [show ((k : Int) == (k : Int) && l3 == t) = true by rw [hl3.out]; simp]; rintro e w5 ⟨rfl, hb5⟩; have hT5 := hT4.mem hb5; obtain ⟨A8, c8, ha8⟩ := hT5.a; obtain ⟨B8, d8, hb8⟩ := hT5.b; have k0 := hb8.c0; have k1 := hb8.c1)
        | (go_at_call 23; refine (fault_any w.heap.size _ A8 c8 L' f' _ ha8).mono ?_; rintro e w9 ⟨rfl, rfl⟩)
        | (go_at_call 24; refine (left_any w.heap.size _ A8 c8 L' f' _ ha8).mono ?_; rintro e w9 ⟨rfl, rfl⟩))
      all_goals
        go_wp2_with fail
        go_roundw
        case rel => exact ⟨i + 1, L', f', hlt, by go_num, hT5, by omega⟩
        case measure => simp [intOf]; omega
    · have e : i = m := by omega
      subst e
      have hlow := hT.low
      have hbs := hT.bs
      go_wp2_with fail
      refine (lives07_any _).mono ?_
      rintro e w5 ⟨rfl, hb5⟩
      go_wp2_with fail
      go_ret
      exact ⟨rfl, hlow.trans (hb5.mono hbs)⟩
end Go.Proofs.Ytofllgmieciakab
