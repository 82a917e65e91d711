/- EntryReads is true for every input: what is read of any bytes, and the fault, is the document's. No condition beyond the row's own. -/
import Derived.Test.YtofllgmieciakabEntryReadR
import Derived.Test.YtofllgmieciakabLives21
namespace Go.Proofs.Ytofllgmieciakab
open Go.RowKit Go.WideShapes Go.ChangeShapes Go.ChangeAt

theorem refEntrySameRN_any (p q : ByteArray) (v k : Int) (A B : Option Addr) (c d n : Nat) (l m : List UInt8) (Z Z' : Nat → Prop) (w : World) (hl : By w Z A l) (hm : Rd w Z' 1 B n (m.map bv)) (hn : Hid (n = m.length)) (hlm : Hid (l = m)) (r : List UInt8) (hp : Hid (tl p = r)) (hq : Hid (tl q = r)) :
    Calls Try.prog 35 #[.agg #[.string p, .int .u64 v, .int .i64 k, .slice A l.length c], .agg #[.string q, .int .u64 v, .int .i64 k, .slice B n d]] w fun e w' => e = .returned (.bool true) ∧ Below w.heap.size w w' := by
  obtain rfl := hn.out
  have h := refEntrySame_any p q v v k k A B c d l m Z Z' w hl hm
  rw [show sameE (tl p) (tl q) v v k k l m = true by unfold sameE; rw [hp.out, hq.out, hlm.out]; simp] at h
  exact h
def erRel (w0 : World) (e1 e2 : Nat) (iv : Value) (wr : World) : Prop :=
  ∃ (i : Nat) (L : List UInt8) (f : Int), i ≤ 2 ∧ iv = .int .i64 (i : Int) ∧ TwoE w0 wr e1 e2 L f L f ∧ L.length ≤ 6000

set_option maxRecDepth 100000 in
set_option maxHeartbeats 400000 in
theorem entryReads_far (x : BV) (w : World) (hl : 6000 < x.l.length) :
    Calls Try.prog 7 #[.slice x.A x.l.length x.c] w fun e w' => e = .returned (.bool true) ∧ Below w.heap.size w w' := by
  go_enter Try.func7, Try.ntmps7
  go_wp2_with fail
  refine (lives21_any _).mono ?_
  rintro e w1 ⟨rfl, rfl⟩
  go_wp2_with fail
  go_ret
  exact ⟨rfl, Below.refl _ _⟩

set_option maxRecDepth 100000 in
set_option maxHeartbeats 4000000 in
theorem entryReads_near (x : BV) (w : World) (hx : x.ok w (fun b => b < w.heap.size)) (hl : ¬ 6000 < x.l.length) :
    Calls Try.prog 7 #[.slice x.A x.l.length x.c] w fun e w' => e = .returned (.bool true) ∧ Below w.heap.size w w' := by
  obtain ⟨xA, xc, xl⟩ := x
  obtain ⟨hby, hlc, hcm⟩ := hx
  dsimp only at *
  go_enter Try.func7, Try.ntmps7
  go_wp2_with fail
  refine (open_any xA xc xl.length w).mono ?_
  rintro e w2 ⟨rfl, rfl⟩
  have he1 := EyeAt.new w (T := 76) hby hlc hcm
  have he2 := EyeAt.new (w.alloc (.cells #[.slice xA xl.length xc, .int .i64 0] 76)) (T := 41) (hby.alloc _) hlc hcm
  have hT : TwoE w ((w.alloc (.cells #[.slice xA xl.length xc, .int .i64 0] 76)).alloc (.cells #[.slice xA xl.length xc, .int .i64 0] 41)) w.heap.size (w.heap.size + 1) xl 0 xl 0 :=
    ⟨⟨xA, xc, he1.below ((Below.refl _ _).alloc (Nat.le_refl _) _)⟩, ⟨xA, xc, by simpa using he2⟩, ((Below.refl _ _).alloc (Nat.le_refl _) _).alloc (by simp) _, Nat.le_refl _, by omega, by omega, by simp; omega⟩
  go_wp2_with fail
  go_loopw [16] (fun iv wr => erRel w w.heap.size (w.heap.size + 1) iv wr) (fun iv _ => 2 - (intOf iv).toNat)
  case atStart => exact ⟨0, xl, 0, Nat.zero_le _, rfl, hT, by omega⟩
  case round =>
    obtain ⟨i, L, f, hi, rfl, hT, hL⟩ := hrel
    by_cases hlt : i < 2
    · have z1 := hT.z1
      have z2 := hT.z2
      have hrl := entS_len L f
      generalize hr : entS L f = r at hrl
      obtain ⟨p, n, k, t, L', f'⟩ := r
      dsimp only at hrl
      have HR := Lib.hid hr
      clear hr
      go_wp2_with fail
      have hlow := hT.low
      go_region_with
        (first
        | (go_at_call 39; obtain ⟨A2, c2, ha2⟩ := hT.drew.a; refine (entryRead_any w.heap.size _ A2 c2 L f _ ha2 z1 (by omega)).mono ?_; rw [HR.out]; rintro e w3 ⟨p3, A3, c3, l3, rfl, hp3, hl3, ho3, hk⟩; have hT3 := hT.drew.left hk)
        | (go_at_call 40; obtain ⟨B2, d2, hb2⟩ := hT3.b; refine (refEntryRead_any (w.heap.size + 1) _ B2 d2 L f _ hb2 z2 (by omega)).mono ?_; rw [HR.out]; rintro e w4 ⟨p5, A5, n5, c5, rfl, hp5, hn5, hr5, hk2⟩; have hT4 := hT3.right hk2; have hy3 := ho3.rd.fr hk2.fr (fun b _ hb e => absurd (own_ablk ho3 b hb).1 (by have hq := hT.bs; obtain ⟨B9, d9, hb9⟩ := hT.b; have := hb9.1.lt; simp; omega)))
        | (go_at_call 35; refine (refEntrySameRN_any p3 p5 n k A3 A5 c3 c5 n5 l3 t _ _ _ hy3 hr5 hn5 hl3 p hp3 hp5).mono ?_; rintro e w5 ⟨rfl, hb5⟩; have hT5 := hT4.mem hb5; obtain ⟨A8, c8, ha8⟩ := hT5.a; obtain ⟨B8, d8, hb8⟩ := hT5.b; have k0 := hb8.c0; have k1 := hb8.c1)
        | (go_at_call 23; refine (fault_any w.heap.size _ A8 c8 L' f' _ ha8).mono ?_; rintro e w9 ⟨rfl, rfl⟩)
        | (go_at_call 24; refine (left_any w.heap.size _ A8 c8 L' f' _ ha8).mono ?_; rintro e w9 ⟨rfl, rfl⟩))
      all_goals
        go_wp2_with fail
        go_roundw
        case rel => exact ⟨i + 1, L', f', hlt, by go_num, hT5, by omega⟩
        case measure => simp [intOf]; omega
    · have e : i = 2 := by omega
      subst e
      have hlow := hT.low
      have hbs := hT.bs
      go_wp2_with fail
      refine (lives21_any _).mono ?_
      rintro e w5 ⟨rfl, rfl⟩
      go_wp2_with fail
      go_ret
      exact ⟨rfl, hlow⟩
end Go.Proofs.Ytofllgmieciakab
