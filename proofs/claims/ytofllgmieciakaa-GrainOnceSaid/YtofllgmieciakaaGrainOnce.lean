/- GrainOnce is true for every input: a number that is read of any bytes has no other bytes than those of which it was read. No condition beyond the row's own. -/
import Derived.Test.YtofllgmieciakaaEyeMore
import Derived.Test.YtofllgmieciakaaOpenOps
import Derived.Test.YtofllgmieciakaaLaw01b
import Derived.Deep.RegionHeld3
namespace Go.Proofs.Ytofllgmieciakaa
open Go.RowKit Go.WideShapes Go.ChangeShapes Go.ChangeAt

set_option maxHeartbeats 400000 in
theorem grainOnce_far (A : Option Addr) (c : Nat) (l : List UInt8) (most : Nat) (w : World) (hl : 100 < l.length) :
    Calls Try.prog 6 #[.slice A l.length c, .int .u64 most] w fun e w' => e = .returned (.bool true) ∧ Below w.heap.size w w' := by
  go_enter Try.func6, Try.ntmps6
  go_wp2_with fail
  refine (lives01_any _).mono ?_
  rintro e w1 ⟨rfl, hb1⟩
  go_wp2_with fail
  go_ret
  exact ⟨rfl, hb1⟩

theorem EyeTo.low {w w' : World} {T eb B : Nat} {Z : Nat → Prop} {l : List UInt8} {f : Int} (h : EyeTo w T eb Z l f w') (hB : B ≤ eb) (hs : B ≤ w.heap.size) : Below B w w' := h.fr.below hs (fun k hk => by omega)

theorem readS_fault {l l' : List UInt8} {n most : Nat} {f : Int} (h : readS l 0 most = (n, l', f)) (hf : f ≠ 0) : n = 0 ∧ l' = [] := by
  rcases l with _ | ⟨x, r⟩
  · rw [readS_nil] at h; simp only [Prod.mk.injEq] at h; exact ⟨h.1.symm, h.2.1.symm⟩
  · by_cases h1 : 8 < x.toNat
    · rw [readS_wide h1] at h; simp only [Prod.mk.injEq] at h; exact ⟨h.1.symm, h.2.1.symm⟩
    · by_cases h2 : r.length < x.toNat
      · rw [readS_short h1 h2] at h; simp only [Prod.mk.injEq] at h; exact ⟨h.1.symm, h.2.1.symm⟩
      · by_cases h3 : 0 < x.toNat ∧ r.getD 0 0 = 0
        · rw [readS_zero h1 h2 h3] at h; simp only [Prod.mk.injEq] at h; exact ⟨h.1.symm, h.2.1.symm⟩
        · by_cases h4 : most < val (r.take x.toNat)
          · rw [readS_long h1 h2 h3 h4] at h; simp only [Prod.mk.injEq] at h; exact ⟨h.1.symm, h.2.1.symm⟩
          · rw [readS_ok h1 h2 h3 h4] at h; simp only [Prod.mk.injEq] at h; exact absurd h.2.2.symm hf

theorem refSame_n (A B : Option Addr) (c d : Nat) (l m : List UInt8) (n : Nat) (Z Z' : Nat → Prop) (w : World) (hl : By w Z A l) (hm : Rd w Z' 1 B n (m.map bv)) (hn : n = m.length) :
    Calls Try.prog 27 #[.slice A l.length c, .slice B n d] w fun e w' => e = .returned (.bool (l == m)) ∧ w = w' := by
  subst hn
  exact refSame_any A B c d l m Z Z' w hl hm

set_option maxHeartbeats 1000000 in
theorem grainOnce_near (x : BV) (most : Nat) (w : World) (h : x.ok w (fun b => b < w.heap.size)) (hl : ¬ 100 < x.l.length) :
    Calls Try.prog 6 #[.slice x.A x.l.length x.c, .int .u64 most] w fun e w' => e = .returned (.bool true) ∧ Below w.heap.size w w' := by
  obtain ⟨A, c, l⟩ := x
  obtain ⟨hby, hlc, hcm⟩ := h
  dsimp only at *
  have he := EyeAt.new w (T := 75) hby hlc hcm
  have hz : ¬ (fun b => b < w.heap.size) w.heap.size := by simp
  generalize hr : readS l 0 most = r
  obtain ⟨n, l', f⟩ := r
  have hnum := eyeNum_any w.heap.size _ A c l 0 most _ he hz
  rw [hr] at hnum
  have HN := Lib.hid hnum
  clear hnum
  by_cases hf : f = 0
  · subst hf
    obtain ⟨h1, h2, k, h3, h4, h5, h6, h7⟩ := readS_once hr
    have H6 := Lib.hid h6
    have H5 := Lib.hid h5
    clear h6 h5 h7 hr
    go_enter Try.func6, Try.ntmps6
    go_wp2_with fail
    refine (open_any A c l.length w).mono ?_
    rintro e w1 ⟨rfl, rfl⟩
    go_wp2_with fail
    refine HN.out.mono ?_
    rintro e w1 ⟨rfl, h8⟩
    obtain ⟨A1, c1, ha1⟩ := h8.at_
    dsimp only at ha1
    go_wp2_with fail
    refine (fault_any w.heap.size _ A1 c1 l' 0 w1 ha1).mono ?_
    rintro e w2 ⟨rfl, rfl⟩
    go_wp2_with fail
    refine (left_any w.heap.size _ A1 c1 l' 0 w1 ha1).mono ?_
    rw [show (l'.length : Int) = (l.length : Int) - (k : Int) by rw [H5.out]; omega]
    rintro e w2 ⟨rfl, rfl⟩
    have hs8 := h8.fr.size
    have hkk : (l.length : Int) - ((l.length : Int) - (k : Int)) = (k : Int) := by omega
    have hb8 : Below w.heap.size w w1 := ((Below.refl _ _).alloc (Nat.le_refl _) _).trans (h8.low (Nat.le_refl _) (by simp))
    go_wp2_with fail
    refine (Num_any w.heap.size w1.heap.size (.slice none 0 0) [] _ _ [n] (fun b => (w1.alloc (.cells #[.slice none 0 0] 43)).heap.size ≤ b) _ ?_ ?_ ?_ ?_ (by have := hb8.size; simp; omega) (by simp)).mono ?_
    · exact (Pen.new w1).alloc _
    · exact Rd.lit rfl rfl (by simp)
    · rintro b _ hb (rfl | h)
      · simp at hb; omega
      · simp [Value.ownBlock] at h
    · simpa using h2
    rintro e w2 ⟨rfl, vp2, h9⟩
    have hb9 := ((Pen.new w1 (base := w.heap.size)).alloc _).low h9 (B := w.heap.size) hb8.size (Nat.le_refl _) (by have := hb8.size; simp; omega)
    have hb2 : Below w.heap.size w w2 := (((hb8.alloc hb8.size _).alloc (by have := hb8.size; simp; omega) _).trans hb9)
    have hp := h9.pen
    have hby2 : By w2 (fun b => b < w.heap.size) A l := hby.below hb2
    have htk : Rd w2 (fun b => b < w.heap.size) 1 A k ((l.take k).map bv) := by
      have := Rd.take hby2 (k := k) h4
      rw [Nat.mul_one, ← List.map_take] at this
      exact this
    go_wp2_with fail
    clear hb9 h9 h8 ha1 he
    have hk0 : (0 : Int) ≤ (k : Int) := by omega
    have hkc : (k : Int) ≤ (c : Int) := by omega
    have hkl : k = (l.take k).length := by rw [List.length_take]; omega
    have HKL := Lib.hid hkl
    clear hkl
    go_region_held3 (fun w' => Below w2.heap.size w2 w')
      (first | assumption | exact (Below.refl _ _).drew | exact bthen ‹Below w2.heap.size w2 _› hb3 | exact bthen (Below.refl _ _).drew hb3)
      (first
        | (go_at_call 28; refine (Bytes_any _ _ _ _ _ (hp.below ‹Below w2.heap.size w2 _›) (by have := numB_len n; simp; omega)).mono ?_; rintro e w3 ⟨A3, c3, l3, rfl, hl3, ho3, hb3⟩)
        | (go_at_call 27; refine (refSame_n A3 A c3 c l3 (l.take k) k _ _ _ ho3.rd (htk.below (bthen (Below.refl _ _).drew hb3)) HKL.out).mono ?_; rw [show (l3 == l.take k) = true by rw [hl3.out, H6.out]; simp]; rintro e w4 ⟨rfl, rfl⟩)
        | (go_at_call 21; refine (lives01_any _).mono ?_; rintro e w3 ⟨rfl, hb3⟩))
    go_wp2_with fail
    go_ret
    exact ⟨rfl, hb2.trans (‹Below w2.heap.size w2 _›.mono hb2.size)⟩
  · obtain ⟨rfl, rfl⟩ := readS_fault hr hf
    have hfb : (f != 0) = true := by simpa using hf
    clear hr hf
    go_enter Try.func6, Try.ntmps6
    go_wp2_with fail
    refine (open_any A c l.length w).mono ?_
    rintro e w1 ⟨rfl, rfl⟩
    go_wp2_with fail
    refine HN.out.mono ?_
    rintro e w1 ⟨rfl, h8⟩
    obtain ⟨A1, c1, ha1⟩ := h8.at_
    dsimp only at ha1
    have hb8 : Below w.heap.size w w1 := ((Below.refl _ _).alloc (Nat.le_refl _) _).trans (h8.low (Nat.le_refl _) (by simp))
    go_wp2_with fail
    refine (fault_any w.heap.size _ A1 c1 [] f w1 ha1).mono ?_
    rintro e w2 ⟨rfl, rfl⟩
    go_wp2_with fail
    refine (left_any w.heap.size _ A1 c1 [] f w1 ha1).mono ?_
    rintro e w2 ⟨rfl, rfl⟩
    go_wp2_with fail
    refine (lives01_any _).mono ?_
    rintro e w2 ⟨rfl, hb3⟩
    go_wp2_with fail
    go_ret
    exact ⟨rfl, hb8.trans (hb3.mono hb8.size)⟩

set_option maxRecDepth 100000 in
theorem grainOnce_lifted (os : Os) (started : os.Started) (H : Type) (enc : TypeId × Value → H) :
    ReturnsInHanded {} Try.checked os 6 .any (Rows.grainOnceSpec.pre6 enc Try.prog Try.f6 Rows.grainOnceRow.domain false) (Rows.grainOnceSpec.post enc Try.prog Try.f6 false true false false) := by
  refine law_lift started (by kernel_rfl) Try.func6 (by kernel_rfl) rfl ?_ ?_
    (ChangeSpec.witness6 (enc := enc) (C := Try.checked) false ⟨#[], #[.slice none 0 0, .int .u64 0], []⟩ 8 (by kernel_rfl) (by kernel_rfl) (by kernel_rfl) (by kernel_rfl)) ?_
  · rw [Try.params6]
    intro t ht
    exact law_reads (by kernel_rfl) t ht
  · rw [Try.params6]
    intro ds hds
    match ds, hds with
    | [d1, d2], _ => rfl
  · intro W base args ds ps hval hA hlt hsz
    rw [Try.params6] at hA hval hsz
    obtain ⟨v0, v1, d0, d1, p0, p1, rfl, rfl, rfl, h0, h1⟩ := trodAll_two hA
    obtain ⟨m, rfl, rfl, rfl, wm⟩ := open_int Try.underlying22 (hval 1 22 v1 rfl rfl) h1
    have bm := u64_bd wm
    obtain ⟨m, rfl⟩ := Int.eq_ofNat_of_zero_le bm.1
    obtain ⟨n, hn⟩ := h0
    obtain ⟨A0, n0, c0, rfl⟩ := okWide_slice Try.underlying41 (hval 0 41 v0 rfl rfl)
    obtain ⟨x, hv', hx, _⟩ := open_bv hn (within_of (j := 0) hsz rfl rfl)
    rw [hv']
    by_cases hl : 100 < x.l.length
    · exact grainOnce_far x.A x.c x.l m W hl
    · exact grainOnce_near x m W hx hl


theorem grainOnce_holds : Rows.GrainOnceSaid :=
  OpenClaim.holds_of_wide 6 Try.f6 rfl rfl rfl rfl rfl rfl rfl ⟨rfl, rfl, rfl, rfl, rfl⟩ rfl rfl rfl rfl rfl (by kernel_rfl) Try.func6 (by kernel_rfl)
    (of_decide_eq_true (by kernel_rfl)) (by unfold Func.isWrapper; rw [if_neg (of_decide_eq_false (by kernel_rfl))]; exact ⟨rfl, rfl⟩)
    (fun os started H enc _ => grainOnce_lifted os started H enc)
end Go.Proofs.Ytofllgmieciakaa
