/- GrainReads is true for every input: whatever is read of any bytes, and the fault, is what the document says; a nil eye reads nothing. No condition beyond the row's own. -/
import Derived.Test.YtofllgmieciakaaEyeText
import Derived.Test.YtofllgmieciakaaOpenOps
import Derived.Test.YtofllgmieciakaaLaw01b
import Derived.Deep.RegionHeld3
namespace Go.Proofs.Ytofllgmieciakaa
open Go.RowKit Go.WideShapes Go.ChangeShapes Go.ChangeAt

/-- two eyes on old bytes, apart; below all is as in w0 -/
structure TwoE (w0 w : World) (e1 e2 : Nat) (L1 : List UInt8) (f1 : Int) (L2 : List UInt8) (f2 : Int) : Prop where
  a : ∃ A c, EyeAt w 75 e1 (fun b => b < w0.heap.size) A c L1 f1
  b : ∃ A c, EyeAt w 61 e2 (fun b => b < w0.heap.size) A c L2 f2
  low : Below w0.heap.size w0 w
  h1 : w0.heap.size ≤ e1
  h2 : w0.heap.size ≤ e2
  ne : e1 ≠ e2
  bs : w0.heap.size ≤ w.heap.size

theorem TwoE.mem {w0 w w' : World} {e1 e2 : Nat} {L1 L2 : List UInt8} {f1 f2 : Int} (h : TwoE w0 w e1 e2 L1 f1 L2 f2) (k : Below w.heap.size w w') : TwoE w0 w' e1 e2 L1 f1 L2 f2 := by
  obtain ⟨A, c, ha⟩ := h.a
  obtain ⟨B, d, hb⟩ := h.b
  exact ⟨⟨A, c, ha.below k⟩, ⟨B, d, hb.below k⟩, h.low.trans (k.mono h.bs), h.h1, h.h2, h.ne, Nat.le_trans h.bs k.size⟩
theorem TwoE.left {w0 w w' : World} {e1 e2 : Nat} {L1 L2 L : List UInt8} {f1 f2 f : Int} (h : TwoE w0 w e1 e2 L1 f1 L2 f2) (k : EyeTo w 75 e1 (fun b => b < w0.heap.size) L f w') : TwoE w0 w' e1 e2 L f L2 f2 := by
  obtain ⟨B, d, hb⟩ := h.b
  exact ⟨k.at_, ⟨B, d, hb.fr k.fr (fun e => h.ne e.symm) (fun b _ hz e => by have := h.h1; omega)⟩, h.low.trans (k.fr.below h.bs (fun x hx e => by have := h.h1; omega)), h.h1, h.h2, h.ne, Nat.le_trans h.bs k.fr.size⟩
theorem TwoE.right {w0 w w' : World} {e1 e2 : Nat} {L1 L2 L : List UInt8} {f1 f2 f : Int} (h : TwoE w0 w e1 e2 L1 f1 L2 f2) (k : EyeTo w 61 e2 (fun b => b < w0.heap.size) L f w') : TwoE w0 w' e1 e2 L1 f1 L f := by
  obtain ⟨B, d, hb⟩ := h.a
  exact ⟨⟨B, d, hb.fr k.fr h.ne (fun b _ hz e => by have := h.h2; omega)⟩, k.at_, h.low.trans (k.fr.below h.bs (fun x hx e => by have := h.h2; omega)), h.h1, h.h2, h.ne, Nat.le_trans h.bs k.fr.size⟩
theorem TwoE.z1 {w0 w : World} {e1 e2 : Nat} {L1 L2 : List UInt8} {f1 f2 : Int} (h : TwoE w0 w e1 e2 L1 f1 L2 f2) : ¬ (fun b => b < w0.heap.size) e1 := by have := h.h1; simp; omega
theorem TwoE.z2 {w0 w : World} {e1 e2 : Nat} {L1 L2 : List UInt8} {f1 f2 : Int} (h : TwoE w0 w e1 e2 L1 f1 L2 f2) : ¬ (fun b => b < w0.heap.size) e2 := by have := h.h2; simp; omega
theorem TwoE.drew {w0 w : World} {e1 e2 : Nat} {L1 L2 : List UInt8} {f1 f2 : Int} (h : TwoE w0 w e1 e2 L1 f1 L2 f2) : TwoE w0 w.drew e1 e2 L1 f1 L2 f2 := h.mem (Below.refl _ _).drew

theorem keep1 {w' w3 : World} {T eb bx o : Nat} {Z : Nat → Prop} {l : List UInt8} {f : Int} {u : Value} (hS : w'.cell? ⟨bx, o, none⟩ = some u) (h : EyeTo w' T eb Z l f w3) (hne : bx ≠ eb) : w3.cell? ⟨bx, o, none⟩ = some u :=
  (h.fr.cell (p := ⟨bx, o, none⟩) (World.block_lt_of_cell? w' ⟨bx, o, none⟩ hS) hne).trans hS

theorem truthI_any (eb : Nat) (Z : Nat → Prop) (A : Option Addr) (c : Nat) (l : List UInt8) (f : Int) (w : World) (h : EyeAt w 75 eb Z A c l f) (hz : ¬ Z eb) :
    Calls Try.prog 34 #[.pointer (some ⟨eb, 0, none⟩)] w fun e w' => e = .returned (.bool (((readS l f 1).1 : Int) == 1)) ∧ EyeTo w 75 eb Z (readS l f 1).2.1 (readS l f 1).2.2 w' := by
  refine (truth_any eb Z A c l f w h hz).mono ?_
  rintro e w' ⟨rfl, h1⟩
  exact ⟨ret_b (by rw [Bool.eq_iff_iff]; simp; omega), h1⟩
theorem sameN_any (A B : Option Addr) (c d : Nat) (l m : List UInt8) (n : Nat) (Z Z' : Nat → Prop) (w : World) (hl : By w Z A l) (hm : Rd w Z' 1 B n (m.map bv)) (hn : n = m.length) :
    Calls Try.prog 27 #[.slice A l.length c, .slice B n d] w fun e w' => e = .returned (.bool (l == m)) ∧ w = w' := by
  subst hn
  exact refSame_any A B c d l m Z Z' w hl hm
theorem textS_len (l : List UInt8) (f most : Int) : (textS l f most).2.1.length ≤ l.length := by
  have h := intS_len l f most
  unfold textS
  dsimp only
  split
  · exact h
  · split
    · exact Nat.zero_le _
    · simp; omega

theorem hB2 {W w' : World} {a : Addr} {u : Value} (hS : w'.cell? a = some u ∧ Below W.heap.size W w') : Below W.heap.size W w' := hS.2

theorem own_ablk {w : World} {base : Nat} {A : Option Addr} {n c : Nat} {l : List UInt8} (h : OwB w base (.slice A n c) l) : ∀ b, ablk A = some b → base ≤ b ∧ b < w.heap.size := by
  intro b hb
  rcases A with _ | a
  · cases hb
  · exact h.lt b (by simpa [ablk, Value.ownBlock] using hb)

def grRel (w0 : World) (e1 e2 n : Nat) (iv : Value) (wr : World) : Prop :=
  ∃ (i : Nat) (L : List UInt8) (f : Int), i ≤ n ∧ iv = .int .i64 (i : Int) ∧ TwoE w0 wr e1 e2 L f L f ∧ L.length ≤ 3000

set_option maxHeartbeats 400000 in
theorem fail_nil (code : Int) (w : World) : Calls Try.prog 39 #[.pointer none, .int .i64 code] w fun e w' => e = .returned (.tuple #[]) ∧ w = w' := by
  go_enter Try.func39, Try.ntmps39
  go_wp2_with fail
  go_end0
  exact ⟨rfl, rfl⟩

set_option maxHeartbeats 400000 in
theorem eyeNum_nil (m : Int) (w : World) : Calls Try.prog 30 #[.pointer none, .int .u64 m] w fun e w' => e = .returned (.int .u64 0) ∧ w = w' := by
  go_enter Try.func30, Try.ntmps30
  go_wp2_with fail
  go_ret
  exact ⟨rfl, rfl⟩

set_option maxHeartbeats 400000 in
theorem int_nil (w : World) : Calls Try.prog 37 #[.pointer none, .int .i64 (-1)] w fun e w' => e = .returned (.int .i64 0) ∧ w = w' := by
  go_enter Try.func37, Try.ntmps37
  go_wp2_with (go_at_call 30; refine (eyeNum_nil _ _).mono ?_; rintro e w1 ⟨rfl, rfl⟩)
  go_ret
  exact ⟨rfl, rfl⟩

set_option maxHeartbeats 400000 in
theorem int3_nil (w : World) : Calls Try.prog 37 #[.pointer none, .int .i64 3] w fun e w' => e = .returned (.int .i64 0) ∧ w = w' := by
  go_enter Try.func37, Try.ntmps37
  go_wp2_with (go_at_call 30; refine (eyeNum_nil _ _).mono ?_; rintro e w1 ⟨rfl, rfl⟩)
  go_ret
  exact ⟨rfl, rfl⟩

set_option maxHeartbeats 400000 in
theorem text_nil (w : World) : Calls Try.prog 35 #[.pointer none, .int .i64 3] w fun e w' => e = .returned (.slice none 0 0) ∧ w = w' := by
  go_enter Try.func35, Try.ntmps35
  go_wp2_with (go_at_call 37; refine (int3_nil _).mono ?_; rintro e w1 ⟨rfl, rfl⟩)
  go_ret
  exact ⟨rfl, rfl⟩

set_option maxHeartbeats 400000 in
theorem left_nil (w : World) : Calls Try.prog 32 #[.pointer none] w fun e w' => e = .returned (.int .i64 0) ∧ w = w' := by
  go_enter Try.func32, Try.ntmps32
  go_wp2_with fail
  go_ret
  exact ⟨rfl, rfl⟩

set_option maxHeartbeats 400000 in
theorem truth_nil (w : World) : Calls Try.prog 34 #[.pointer none] w fun e w' => e = .returned (.bool false) ∧ w = w' := by
  go_enter Try.func34, Try.ntmps34
  go_wp2_with (go_at_call 30; refine (eyeNum_nil _ _).mono ?_; rintro e w1 ⟨rfl, rfl⟩)
  go_ret
  exact ⟨rfl, rfl⟩

set_option maxHeartbeats 400000 in
theorem fault_nil (w : World) : Calls Try.prog 31 #[.pointer none] w fun e w' => e = .returned (.int .i64 1) ∧ w = w' := by
  go_enter Try.func31, Try.ntmps31
  go_wp2_with fail
  go_ret
  exact ⟨rfl, rfl⟩

set_option maxHeartbeats 400000 in
theorem close_nil (w : World) : Calls Try.prog 41 #[.pointer none] w fun e w' => e = .returned (.int .i64 1) ∧ w = w' := by
  go_enter Try.func41, Try.ntmps41
  go_wp2_with (go_at_call 31; refine (fault_nil _).mono ?_; rintro e w1 ⟨rfl, rfl⟩)
  go_ret
  exact ⟨rfl, rfl⟩

set_option maxRecDepth 100000 in
set_option maxHeartbeats 2000000 in
theorem grainReads_near (x : BV) (A : Option Addr) (c : Nat) (l : List OpV) (w : World) (hx : x.ok w (fun b => b < w.heap.size)) (h : Ops w (fun b => b < w.heap.size) A l) (hxl : ¬ 3000 < x.l.length) (hl : lightB l = true) :
    Calls Try.prog 7 #[.slice x.A x.l.length x.c, .slice A l.length c] w fun e w' => e = .returned (.bool true) ∧ Below w.heap.size w w' := by
  obtain ⟨xA, xc, xl⟩ := x
  obtain ⟨hby, hlc, hcm⟩ := hx
  dsimp only at *
  have hlen := h.len
  have hl2 : l.length ≤ 200 ∧ lens l ≤ 3000 := by simpa [lightB] using hl
  go_enter Try.func7, Try.ntmps7
  go_wp2_with fail
  refine (light01_any A c l _ w h).mono ?_
  rintro e w1 ⟨rfl, hb1⟩
  rw [hl]
  have hs1 := hb1.size
  have hby1 := hby.below hb1
  go_wp2_with fail
  refine (open_any xA xc xl.length w1).mono ?_
  rintro e w2 ⟨rfl, rfl⟩
  have he1 := EyeAt.new w1 (T := 75) hby1 hlc hcm
  have he2 := EyeAt.new (w1.alloc (.cells #[.slice xA xl.length xc, .int .i64 0] 75)) (T := 61) (hby1.alloc _) hlc hcm
  have hT : TwoE w ((w1.alloc (.cells #[.slice xA xl.length xc, .int .i64 0] 75)).alloc (.cells #[.slice xA xl.length xc, .int .i64 0] 61)) w1.heap.size (w1.heap.size + 1) xl 0 xl 0 :=
    ⟨⟨xA, xc, he1.below ((Below.refl _ _).alloc (Nat.le_refl _) _)⟩, ⟨xA, xc, by simpa using he2⟩, (hb1.alloc hs1 _).alloc (by simp; omega) _, hs1, by omega, by omega, by simp; omega⟩
  go_wp2_with fail
  go_loopw [29] (fun iv wr => grRel w w1.heap.size (w1.heap.size + 1) l.length iv wr) (fun iv _ => l.length - (intOf iv).toNat)
  case atStart => exact ⟨0, xl, 0, Nat.zero_le _, rfl, hT, by omega⟩
  case round =>
    obtain ⟨i, L, f, hi, rfl, hT, hL⟩ := hrel
    by_cases hlt : i < l.length
    · have hq := (h.below hT.low).at_ hlt
      have hok := (h.ok _ (List.getElem_mem hlt))
      generalize l[i] = o at *
      obtain ⟨kind, n, most, oA, oc, ol⟩ := o
      obtain ⟨_, _, hn, hm0, hm1, _, _⟩ := hok
      dsimp only at *
      obtain ⟨b, off, rfl, hz, hbb, hc0, hc1, hc2, hc3⟩ := hq
      have hne1 : w1.heap.size < wr.heap.size := by obtain ⟨A1, c1, ha⟩ := hT.a; exact ha.1.lt
      have hne2 : w1.heap.size + 1 < wr.heap.size := by obtain ⟨A1, c1, ha⟩ := hT.b; exact ha.1.lt
      have hT0 := hT.mem ((Below.refl _ _).alloc (Nat.le_refl _) (.cells #[.int .i64 kind, .int .u64 (n : Int), .int .i64 most, .slice oA ol.length oc] 46))
      have hx1 := Blk.new wr 46 #[.int .i64 kind, .int .u64 (n : Int), .int .i64 most, .slice oA ol.length oc]
      have z1 := hT.z1
      have z2 := hT.z2
      have n1 : wr.heap.size ≠ w1.heap.size := by omega
      have n2 : wr.heap.size ≠ w1.heap.size + 1 := by omega
      by_cases k1 : kind = 1
      · subst k1
        go_wp2_with fail
        have cb := hx1.cell 1
        generalize wr.alloc (.cells #[.int .i64 1, .int .u64 (n : Int), .int .i64 most, .slice oA ol.length oc] 46) = W at hT0 hx1 cb ⊢
        replace cb : W.cell? ⟨wr.heap.size, 1, none⟩ = some (.int .u64 (n : Int)) := cb
        have hrl := readS_len L f n
        generalize hr : readS L f n = r at hrl
        obtain ⟨m, L', f'⟩ := r
        dsimp only at hrl
        have HR := Lib.hid hr
        clear hr
        go_region_held3 (fun w' => w'.cell? ⟨wr.heap.size, 1, none⟩ = some (.int .u64 (n : Int)))
          (first | assumption | exact cb | exact keep1 (by assumption) hk n1 | exact keep1 (by assumption) hk n2)
          (first
            | (go_at_call 30; obtain ⟨A2, c2, ha2⟩ := hT0.drew.a; refine (eyeNum_any w1.heap.size _ A2 c2 L f n _ ha2 z1).mono ?_; rw [HR.out]; rintro e w3 ⟨rfl, hk⟩; have hT3 := hT0.drew.left hk)
            | (go_at_call 33; obtain ⟨B2, d2, hb2⟩ := hT3.b; refine (eyeRead_any (w1.heap.size + 1) _ B2 d2 L f n _ hb2 z2).mono ?_; rw [HR.out]; rintro e w4 ⟨rfl, hk⟩; have hT4 := hT3.right hk))
        go_wp2_with fail
        obtain ⟨A8, c8, ha8⟩ := hT4.a
        obtain ⟨B8, d8, hb8⟩ := hT4.b
        have k8 := hb8.c1
        go_region_held3 (fun w' => w'.cell? ⟨w1.heap.size + 1, 1, none⟩ = some (.int .i64 f') ∧ Below w4.heap.size w4 w')
          (first | assumption | exact ⟨k8, (Below.refl _ _).drew⟩)
          (first
            | (go_at_call 31; refine (fault_any w1.heap.size _ A8 c8 L' f' _ (ha8.below (hB2 (by assumption)))).mono ?_; rintro e w9 ⟨rfl, rfl⟩)
            | (go_at_call 41; refine (close_any w1.heap.size _ A8 c8 L' f' _ (ha8.below (hB2 (by assumption)))).mono ?_; rintro e w9 ⟨rfl, rfl⟩)
            | (go_at_call 42; refine (closeR_any (w1.heap.size + 1) _ B8 d8 L' f' _ (hb8.below (hB2 (by assumption)))).mono ?_; rintro e w9 ⟨rfl, rfl⟩))
        go_wp2_with fail
        go_roundw
        case rel => exact ⟨i + 1, L', f', hlt, by go_num, hT4.mem (hB2 (by assumption)), by omega⟩
        case measure => simp [intOf]; omega
      · have k1b : (kind == 1) = false := by simpa using k1
        by_cases k2 : kind = 2
        · subst k2
          clear k1b
          go_wp2_with fail
          have cb := hx1.cell 1
          generalize wr.alloc (.cells #[.int .i64 2, .int .u64 (n : Int), .int .i64 most, .slice oA ol.length oc] 46) = W at hT0 hx1 cb ⊢
          clear cb
          have hrl := readS_len L f 1
          generalize hr : readS L f 1 = r at hrl
          obtain ⟨m, L', f'⟩ := r
          dsimp only at hrl
          have HR := Lib.hid hr
          clear hr
          obtain ⟨A2, c2, ha2⟩ := hT0.a
          refine (truthI_any w1.heap.size _ A2 c2 L f _ ha2 z1).mono ?_
          rw [HR.out]
          rintro e w3 ⟨rfl, hk⟩
          have hT3 := hT0.left hk
          obtain ⟨B2, d2, hb2⟩ := hT3.b
          go_wp2_with fail
          refine (eyeRead_any (w1.heap.size + 1) _ B2 d2 L f 1 _ hb2 z2).mono ?_
          rw [HR.out]
          rintro e w4 ⟨rfl, hk2⟩
          have hT4 := hT3.right hk2
          go_wp2_with fail
          obtain ⟨A8, c8, ha8⟩ := hT4.a
          obtain ⟨B8, d8, hb8⟩ := hT4.b
          have k8 := hb8.c1
          go_region_held3 (fun w' => w'.cell? ⟨w1.heap.size + 1, 1, none⟩ = some (.int .i64 f') ∧ Below w4.heap.size w4 w')
            (first | assumption | exact ⟨k8, (Below.refl _ _).drew⟩)
            (first
              | (go_at_call 31; refine (fault_any w1.heap.size _ A8 c8 L' f' _ (ha8.below (hB2 (by assumption)))).mono ?_; rintro e w9 ⟨rfl, rfl⟩)
              | (go_at_call 41; refine (close_any w1.heap.size _ A8 c8 L' f' _ (ha8.below (hB2 (by assumption)))).mono ?_; rintro e w9 ⟨rfl, rfl⟩)
              | (go_at_call 42; refine (closeR_any (w1.heap.size + 1) _ B8 d8 L' f' _ (hb8.below (hB2 (by assumption)))).mono ?_; rintro e w9 ⟨rfl, rfl⟩))
          go_wp2_with fail
          go_roundw
          case rel => exact ⟨i + 1, L', f', hlt, by go_num, hT4.mem (hB2 (by assumption)), by omega⟩
          case measure => simp [intOf]; omega
        · have k2b : (kind == 2) = false := by simpa using k2
          by_cases k3 : kind = 3
          · subst k3
            clear k1b k2b
            go_wp2_with fail
            have cb := hx1.cell 2
            generalize wr.alloc (.cells #[.int .i64 3, .int .u64 (n : Int), .int .i64 most, .slice oA ol.length oc] 46) = W at hT0 hx1 cb ⊢
            replace cb : W.cell? ⟨wr.heap.size, 2, none⟩ = some (.int .i64 most) := cb
            have hrl := textS_len L f most
            generalize hr : textS L f most = r at hrl
            obtain ⟨m, L', f'⟩ := r
            dsimp only at hrl
            have HR := Lib.hid hr
            clear hr
            have hWs : w1.heap.size + 1 < W.heap.size := by obtain ⟨B2, d2, hb2⟩ := hT0.b; exact hb2.1.lt
            go_region_held3 (fun w' => w'.cell? ⟨wr.heap.size, 2, none⟩ = some (.int .i64 most))
              (first | assumption | exact cb | exact keep1 (by assumption) hk n1 | exact keep1 (by assumption) hk n2)
              (first
                | (go_at_call 35; obtain ⟨A2, c2, ha2⟩ := hT0.drew.a; refine (text_any w1.heap.size _ A2 c2 L f most _ ha2 z1 hm1 (by omega)).mono ?_; rw [HR.out]; rintro e w3 ⟨A3, c3, l3, rfl, hl3, ho3, hk⟩; have hT3 := hT0.drew.left hk)
                | (go_at_call 36; obtain ⟨B2, d2, hb2⟩ := hT3.b; refine (textR_any (w1.heap.size + 1) _ B2 d2 L f most _ hb2 z2 hm1).mono ?_; rw [HR.out]; rintro e w4 ⟨A5, n5, c5, rfl, hn5, hr5, _, _, hk⟩; have hT4 := hT3.right hk; have hy3 := ho3.rd.fr hk.fr (fun b _ hb e => absurd (own_ablk ho3 b hb).1 (by simp; omega)))
                | (go_at_call 27; refine (sameN_any A3 A5 c3 c5 l3 m n5 _ _ _ hy3 hr5 hn5.out).mono ?_; rw [show (l3 == m) = true by rw [hl3.out]; simp]; rintro e w5 ⟨rfl, rfl⟩))
            go_wp2_with fail
            obtain ⟨A8, c8, ha8⟩ := hT4.a
            obtain ⟨B8, d8, hb8⟩ := hT4.b
            have k8 := hb8.c1
            go_region_held3 (fun w' => w'.cell? ⟨w1.heap.size + 1, 1, none⟩ = some (.int .i64 f') ∧ Below w4.heap.size w4 w')
              (first | assumption | exact ⟨k8, (Below.refl _ _).drew⟩)
              (first
                | (go_at_call 31; refine (fault_any w1.heap.size _ A8 c8 L' f' _ (ha8.below (hB2 (by assumption)))).mono ?_; rintro e w9 ⟨rfl, rfl⟩)
                | (go_at_call 41; refine (close_any w1.heap.size _ A8 c8 L' f' _ (ha8.below (hB2 (by assumption)))).mono ?_; rintro e w9 ⟨rfl, rfl⟩)
                | (go_at_call 42; refine (closeR_any (w1.heap.size + 1) _ B8 d8 L' f' _ (hb8.below (hB2 (by assumption)))).mono ?_; rintro e w9 ⟨rfl, rfl⟩))
            go_wp2_with fail
            go_roundw
            case rel => exact ⟨i + 1, L', f', hlt, by go_num, hT4.mem (hB2 (by assumption)), by omega⟩
            case measure => simp [intOf]; omega
          · have k3b : (kind == 3) = false := by simpa using k3
            by_cases k4 : kind = 4
            · subst k4
              clear k1b k2b k3b
              go_wp2_with fail
              have cb := hx1.cell 2
              generalize wr.alloc (.cells #[.int .i64 4, .int .u64 (n : Int), .int .i64 most, .slice oA ol.length oc] 46) = W at hT0 hx1 cb ⊢
              replace cb : W.cell? ⟨wr.heap.size, 2, none⟩ = some (.int .i64 most) := cb
              have hrl := intS_len L f most
              generalize hr : intS L f most = r at hrl
              obtain ⟨m, L', f'⟩ := r
              dsimp only at hrl
              have HR := Lib.hid hr
              clear hr
              go_region_held3 (fun w' => w'.cell? ⟨wr.heap.size, 2, none⟩ = some (.int .i64 most))
                (first | assumption | exact cb | exact keep1 (by assumption) hk n1 | exact keep1 (by assumption) hk n2)
                (first
                  | (go_at_call 37; obtain ⟨A2, c2, ha2⟩ := hT0.drew.a; refine (int_any w1.heap.size _ A2 c2 L f most _ ha2 z1 hm1).mono ?_; rw [HR.out]; rintro e w3 ⟨rfl, hk⟩; have hT3 := hT0.drew.left hk)
                  | (go_at_call 38; obtain ⟨B2, d2, hb2⟩ := hT3.b; refine (intR_any (w1.heap.size + 1) _ B2 d2 L f most _ hb2 z2 hm1).mono ?_; rw [HR.out]; rintro e w4 ⟨rfl, hk⟩; have hT4 := hT3.right hk))
              go_wp2_with fail
              obtain ⟨A8, c8, ha8⟩ := hT4.a
              obtain ⟨B8, d8, hb8⟩ := hT4.b
              have k8 := hb8.c1
              go_region_held3 (fun w' => w'.cell? ⟨w1.heap.size + 1, 1, none⟩ = some (.int .i64 f') ∧ Below w4.heap.size w4 w')
                (first | assumption | exact ⟨k8, (Below.refl _ _).drew⟩)
                (first
                  | (go_at_call 31; refine (fault_any w1.heap.size _ A8 c8 L' f' _ (ha8.below (hB2 (by assumption)))).mono ?_; rintro e w9 ⟨rfl, rfl⟩)
                  | (go_at_call 41; refine (close_any w1.heap.size _ A8 c8 L' f' _ (ha8.below (hB2 (by assumption)))).mono ?_; rintro e w9 ⟨rfl, rfl⟩)
                  | (go_at_call 42; refine (closeR_any (w1.heap.size + 1) _ B8 d8 L' f' _ (hb8.below (hB2 (by assumption)))).mono ?_; rintro e w9 ⟨rfl, rfl⟩))
              go_wp2_with fail
              go_roundw
              case rel => exact ⟨i + 1, L', f', hlt, by go_num, hT4.mem (hB2 (by assumption)), by omega⟩
              case measure => simp [intOf]; omega
            · have k4b : (kind == 4) = false := by simpa using k4
              by_cases k5 : kind = 5
              · subst k5
                clear k1b k2b k3b k4b
                have cb5 := hx1.cell 2
                go_wp2_with fail
                have cb := hx1.cell 1
                generalize wr.alloc (.cells #[.int .i64 5, .int .u64 (n : Int), .int .i64 most, .slice oA ol.length oc] 46) = W at hT0 hx1 cb cb5 ⊢
                clear cb
                replace cb5 : W.cell? ⟨wr.heap.size, 2, none⟩ = some (.int .i64 most) := cb5
                have hrl := failS_len L f most
                generalize hr : failS L f most = r at hrl
                obtain ⟨L', f'⟩ := r
                dsimp only at hrl
                have HR := Lib.hid hr
                clear hr
                obtain ⟨A2, c2, ha2⟩ := hT0.a
                refine (fail_any w1.heap.size _ A2 c2 L f most _ ha2).mono ?_
                rw [HR.out]
                rintro e w3 ⟨rfl, hk⟩
                have hT3 := hT0.left hk
                have cb3 := keep1 cb5 hk n1
                obtain ⟨B2, d2, hb2⟩ := hT3.b
                go_wp2_with fail
                refine (failR_any (w1.heap.size + 1) _ B2 d2 L f most _ hb2).mono ?_
                rw [HR.out]
                rintro e w4 ⟨rfl, hk2⟩
                have hT4 := hT3.right hk2
                go_wp2_with fail
                obtain ⟨A8, c8, ha8⟩ := hT4.a
                obtain ⟨B8, d8, hb8⟩ := hT4.b
                have k8 := hb8.c1
                go_region_held3 (fun w' => w'.cell? ⟨w1.heap.size + 1, 1, none⟩ = some (.int .i64 f') ∧ Below w4.heap.size w4 w')
                  (first | assumption | exact ⟨k8, (Below.refl _ _).drew⟩)
                  (first
                    | (go_at_call 31; refine (fault_any w1.heap.size _ A8 c8 L' f' _ (ha8.below (hB2 (by assumption)))).mono ?_; rintro e w9 ⟨rfl, rfl⟩)
                    | (go_at_call 41; refine (close_any w1.heap.size _ A8 c8 L' f' _ (ha8.below (hB2 (by assumption)))).mono ?_; rintro e w9 ⟨rfl, rfl⟩)
                    | (go_at_call 42; refine (closeR_any (w1.heap.size + 1) _ B8 d8 L' f' _ (hb8.below (hB2 (by assumption)))).mono ?_; rintro e w9 ⟨rfl, rfl⟩))
                go_wp2_with fail
                go_roundw
                case rel => exact ⟨i + 1, L', f', hlt, by go_num, hT4.mem (hB2 (by assumption)), by omega⟩
                case measure => simp [intOf]; omega
              · have k5b : (kind == 5) = false := by simpa using k5
                by_cases k6 : kind = 6
                · subst k6
                  clear k1b k2b k3b k4b k5b
                  go_wp2_with fail
                  have cb := hx1.cell 1
                  generalize wr.alloc (.cells #[.int .i64 6, .int .u64 (n : Int), .int .i64 most, .slice oA ol.length oc] 46) = W at hT0 hx1 cb ⊢
                  clear cb
                  obtain ⟨A2, c2, ha2⟩ := hT0.a
                  obtain ⟨B2, d2, hb2⟩ := hT0.b
                  have k0 := hb2.c0
                  go_region_held3 (fun w' => w'.cell? ⟨w1.heap.size + 1, 0, none⟩ = some (.slice B2 L.length d2) ∧ Below W.heap.size W w')
                    (first | assumption | exact ⟨k0, (Below.refl _ _).drew⟩)
                    (first
                      | (go_at_call 32; refine (left_any w1.heap.size _ A2 c2 L f _ (ha2.below (hB2 (by assumption)))).mono ?_; rintro e w9 ⟨rfl, rfl⟩))
                  have hT4 := hT0.drew
                  go_wp2_with fail
                  obtain ⟨A8, c8, ha8⟩ := hT4.a
                  obtain ⟨B8, d8, hb8⟩ := hT4.b
                  have k8 := hb8.c1
                  go_region_held3 (fun w' => w'.cell? ⟨w1.heap.size + 1, 1, none⟩ = some (.int .i64 f) ∧ Below W.drew.heap.size W.drew w')
                    (first | assumption | exact ⟨k8, (Below.refl _ _).drew⟩)
                    (first
                      | (go_at_call 31; refine (fault_any w1.heap.size _ A8 c8 L f _ (ha8.below (hB2 (by assumption)))).mono ?_; rintro e w9 ⟨rfl, rfl⟩)
                      | (go_at_call 41; refine (close_any w1.heap.size _ A8 c8 L f _ (ha8.below (hB2 (by assumption)))).mono ?_; rintro e w9 ⟨rfl, rfl⟩)
                      | (go_at_call 42; refine (closeR_any (w1.heap.size + 1) _ B8 d8 L f _ (hb8.below (hB2 (by assumption)))).mono ?_; rintro e w9 ⟨rfl, rfl⟩))
                  go_wp2_with fail
                  go_roundw
                  case rel => exact ⟨i + 1, L, f, hlt, by go_num, hT4.mem (hB2 (by assumption)), hL⟩
                  case measure => simp [intOf]; omega
                · have k6b : (kind == 6) = false := by simpa using k6
                  go_wp2_with fail
                  have cb := hx1.cell 1
                  generalize wr.alloc (.cells #[.int .i64 kind, .int .u64 (n : Int), .int .i64 most, .slice oA ol.length oc] 46) = W at hT0 hx1 cb ⊢
                  clear cb
                  obtain ⟨A8, c8, ha8⟩ := hT0.a
                  obtain ⟨B8, d8, hb8⟩ := hT0.b
                  have k8 := hb8.c1
                  go_region_held3 (fun w' => w'.cell? ⟨w1.heap.size + 1, 1, none⟩ = some (.int .i64 f) ∧ Below W.heap.size W w')
                    (first | assumption | exact ⟨k8, (Below.refl _ _).drew⟩)
                    (first
                      | (go_at_call 31; refine (fault_any w1.heap.size _ A8 c8 L f _ (ha8.below (hB2 (by assumption)))).mono ?_; rintro e w9 ⟨rfl, rfl⟩)
                      | (go_at_call 41; refine (close_any w1.heap.size _ A8 c8 L f _ (ha8.below (hB2 (by assumption)))).mono ?_; rintro e w9 ⟨rfl, rfl⟩)
                      | (go_at_call 42; refine (closeR_any (w1.heap.size + 1) _ B8 d8 L f _ (hb8.below (hB2 (by assumption)))).mono ?_; rintro e w9 ⟨rfl, rfl⟩))
                  go_wp2_with fail
                  go_roundw
                  case rel => exact ⟨i + 1, L, f, hlt, by go_num, hT0.mem (hB2 (by assumption)), hL⟩
                  case measure => simp [intOf]; omega
    · have e : i = l.length := by omega
      subst e
      have hlow := hT.low
      have hbs := hT.bs
      go_wp2_with (first
        | (go_at_call 21; refine (lives01_any _).mono ?_; rintro e w5 ⟨rfl, hb5⟩)
        | (go_at_call 39; refine (fail_nil _ _).mono ?_; rintro e w5 ⟨rfl, rfl⟩)
        | (go_at_call 30; refine (eyeNum_nil _ _).mono ?_; rintro e w5 ⟨rfl, rfl⟩)
        | (go_at_call 37; refine (int_nil _).mono ?_; rintro e w5 ⟨rfl, rfl⟩)
        | (go_at_call 35; refine (text_nil _).mono ?_; rintro e w5 ⟨rfl, rfl⟩)
        | (go_at_call 32; refine (left_nil _).mono ?_; rintro e w5 ⟨rfl, rfl⟩)
        | (go_at_call 34; refine (truth_nil _).mono ?_; rintro e w5 ⟨rfl, rfl⟩)
        | (go_at_call 31; refine (fault_nil _).mono ?_; rintro e w5 ⟨rfl, rfl⟩)
        | (go_at_call 41; refine (close_nil _).mono ?_; rintro e w5 ⟨rfl, rfl⟩))
      go_ret
      exact ⟨rfl, hlow.trans (hb5.mono hbs)⟩
end Go.Proofs.Ytofllgmieciakaa
