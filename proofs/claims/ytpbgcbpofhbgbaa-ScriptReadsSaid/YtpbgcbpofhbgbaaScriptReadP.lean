/- script.Read: the acts of bytes. -/
import Derived.Test.YtpbgcbpofhbgbaaScriptRead
namespace Go.Proofs.Ytpbgcbpofhbgbaa
open Go.RowKit

theorem Acts.mono {w : World} {Z Z' : Nat → Prop} {A : Option Addr} {l : List AV} (h : Acts w Z A l) (hz : ∀ b, b < w.heap.size → Z b → Z' b) : Acts w Z' A l := ⟨h.rd.mono hz, fun v hv => (h.ok v hv).mono hz, h.len⟩
/-- so many acts are read -/
inductive RdN : Nat → List UInt8 → Int → List AS → List UInt8 → Int → Prop
  | zero {l : List UInt8} {f : Int} : RdN 0 l f [] l f
  | bad {n : Nat} {l : List UInt8} {f : Int} : f ≠ 0 → RdN n l f [] l f
  | step {n : Nat} {l l1 l2 : List UInt8} {f1 f2 : Int} {a : AS} {s : List AS} : RdA l 0 a l1 f1 → RdN n l1 f1 s l2 f2 → RdN (n + 1) l 0 (a :: s) l2 f2
theorem RdN.one {n : Nat} {l : List UInt8} {f : Int} {s : List AS} {l1 : List UInt8} {f1 : Int} (h : RdN n l f s l1 f1) : ∀ {t : List AS} {l2 : List UInt8} {f2 : Int}, RdN n l f t l2 f2 → s = t ∧ l1 = l2 ∧ f1 = f2 := by
  induction h with
  | zero => intro t l2 f2 k; cases k <;> exact ⟨rfl, rfl, rfl⟩
  | bad hf =>
    intro t l2 f2 k
    cases k with
    | zero => exact ⟨rfl, rfl, rfl⟩
    | bad _ => exact ⟨rfl, rfl, rfl⟩
    | step _ _ => exact absurd rfl hf
  | step ha hs ih =>
    intro t l2 f2 k
    cases k with
    | bad hf => exact absurd rfl hf
    | step hb ht =>
      obtain ⟨rfl, rfl, rfl⟩ := ha.one hb
      obtain ⟨rfl, rfl, rfl⟩ := ih ht
      exact ⟨rfl, rfl, rfl⟩
/-- the acts of bytes, and the error -/
def RdP (l : List UInt8) (s : List AS) (e : Int) : Prop :=
  ∃ (n : Nat) (L L' : List UInt8) (f f' : Int) (t : List AS), intS l 0 65536 = (n, L, f) ∧ RdN n L f t L' f' ∧ e = closeS L' f' ∧ s = if e ≠ 0 then [] else t
theorem RdP.one {l : List UInt8} {s t : List AS} {e g : Int} (h : RdP l s e) (k : RdP l t g) : s = t ∧ e = g := by
  obtain ⟨n, L, L', f, f', t1, h1, h2, rfl, rfl⟩ := h
  obtain ⟨m, K, K', d, d', t2, k1, k2, rfl, rfl⟩ := k
  rw [h1] at k1
  obtain ⟨rfl, rfl, rfl⟩ : _ ∧ _ ∧ _ := by simpa using k1
  obtain ⟨rfl, rfl, rfl⟩ := h2.one k2
  exact ⟨rfl, rfl⟩

set_option maxRecDepth 100000 in
set_option maxHeartbeats 1000000 in
theorem readP_any (x : BV) (w : World) (h : x.ok w (fun b => b < w.heap.size)) (hl : x.l.length ≤ 140737488355328) :
    Calls Try.prog 30 #[x.v] w fun e w' => ∃ (A : Option Addr) (c : Nat) (s : List AV) (g : Int), e = .returned (.tuple #[.slice A s.length c, .int .i64 g]) ∧ RdP x.l (s.map AV.a) g ∧ Acts w' (fun b => w.heap.size ≤ b) A s ∧ Below w.heap.size w w' ∧ (∀ v ∈ s, v.a.x.length ≤ v.xc ∧ v.xc ≤ maxLen) := by
  obtain ⟨xA, xc, l⟩ := x
  obtain ⟨hy, hlc, hcm⟩ := h
  dsimp only at *
  unfold BV.v
  dsimp only
  obtain ⟨n0, L0, f0, e0⟩ : ∃ n L g, intS l 0 65536 = (n, L, g) := ⟨_, _, _, rfl⟩
  have hn0 := intS_lt (m := 65536) e0
  obtain ⟨i0, hi0, hz0, hz1, hz2⟩ := info_parts act_info
  have ha0 := EyeAt.new w (T := 132) hy hlc hcm
  have hb0 : Below w.heap.size w (w.alloc (.cells #[.slice xA l.length xc, .int .i64 0] 132)) := (by repeat (first | exact Below.refl _ _ | refine Below.alloc ?_ (by simp) _ | refine Below.setCell ?_ (by simp) _ | refine Below.drew ?_))
  have hs0 : (w.alloc (.cells #[.slice xA l.length xc, .int .i64 0] 132)).heap.size = w.heap.size + 1 := World.size_alloc _ _
  have hzz : ¬ (fun b => b < w.heap.size) w.heap.size := by simp
  go_enter Try.func30, Try.ntmps30
  go_wp2_with fail
  refine (open_any xA xc l.length w).mono ?_
  rintro e w0 ⟨rfl, rfl⟩
  generalize w.alloc (.cells #[.slice xA l.length xc, .int .i64 0] 132) = W at *
  have H1 := Lib.hid (int_any w.heap.size _ xA xc l 0 65536 W ha0 hzz (by omega))
  rw [e0] at H1
  go_wp2_with fail
  refine H1.out.mono ?_
  rintro e w1 ⟨rfl, h1⟩
  (try dsimp only at h1)
  clear H1
  go_wp2_with fail
  go_loopw [2, 5] (fun ov nv wr => ∃ (s : List AV) (B : Option Addr) (d j : Nat) (L : List UInt8) (g : Int), ov = .slice B s.length d ∧ nv = .int .i64 (j : Int) ∧ ActRow wr (w.heap.size + 1) (fun b => w.heap.size + 1 ≤ b) B d s ∧ EyeTo W 132 w.heap.size (fun b => b < w.heap.size) L g wr ∧ Hid (∀ t L' g', RdN j L g t L' g' → RdN n0 L0 f0 (s.map AV.a ++ t) L' g') ∧ s.length + j ≤ 65536 ∧ L.length ≤ l.length ∧ Hid (∀ v ∈ s, v.a.x.length ≤ v.xc ∧ v.xc ≤ maxLen)) (fun _ nv _ => (intOf nv).toNat)
  case atStart => exact ⟨[], none, 0, n0, L0, f0, rfl, rfl, ActRow.none_ _ _ _, h1, fun t L' g' h => h, by simp; omega, hn0.2, fun v hv => by simp at hv⟩
  case round =>
    obtain ⟨s, B, d, j, L, g, rfl, rfl, hrow, hE, hL, hj, hLl, hcs⟩ := hrel
    obtain ⟨AE, cE, hA⟩ := hE.at_
    have hBl := hrow.row.lt
    have hsz := hE.fr.size
    have hfin : Hid (RdN j L g [] L g → RdP l ((if closeS L g ≠ 0 then [] else s).map AV.a) (closeS L g)) := fun h => ⟨n0, L0, L, f0, g, s.map AV.a, e0, by have := hL.out [] L g h; simpa using this, rfl, by split <;> rfl⟩
    have hbw : Below w.heap.size w wr := hb0.trans (hE.fr.below (by omega) (fun k hk e => by omega))
    have hC := Lib.hid (close_any w.heap.size _ AE cE L g wr hA)
    have hF := Lib.hid (fault_any w.heap.size _ AE cE L g wr hA)
    rcases j with _ | j
    · have hq := hfin.out .zero
      clear hfin hL
      go_wp2_with (first | (go_at_call 63; refine hF.out.mono ?_; rintro e w2 ⟨rfl, rfl⟩))
      refine hC.out.mono ?_
      rintro e w2 ⟨rfl, rfl⟩
      cases hcz : (closeS L g != 0)
      · have hcl : closeS L g = 0 := by simpa using hcz
        rw [if_neg (by simpa using hcl)] at hq
        have HQ := Lib.hid hq
        clear hq
        generalize closeS L g = k at *
        subst hcl
        go_wp2_with fail
        go_ret2
        exact ⟨B, d, s, 0, rfl, HQ.out, (hrow.acts (fun b hb _ => hb) (by omega)).mono (fun b _ hb => by omega), hbw, hcs.out⟩
      · have hcl : closeS L g ≠ 0 := by simpa using hcz
        rw [if_pos hcl] at hq
        have HQ := Lib.hid hq
        clear hq
        generalize closeS L g = k at *
        go_wp2_with fail
        go_ret2
        exact ⟨none, 0, [], k, rfl, HQ.out, ⟨Rd.nil, by simp, by simp⟩, hbw, by simp⟩
    · by_cases hg : g = 0
      · subst hg
        clear hfin hC
        have hk := EyeAt.to hA
        go_wp2_with (first | (go_at_call 63; refine hF.out.mono ?_; rintro e w2 ⟨rfl, rfl⟩))
        refine (read_any w.heap.size _ AE cE L 0 wr hA (fun b hb => hb) (by omega)).mono ?_
        rintro e w3 ⟨v, L2, f2, rfl, hR, hv, h3, hcv⟩
        have hcs2 : Hid (∀ u ∈ s ++ [v], u.a.x.length ≤ u.xc ∧ u.xc ≤ maxLen) := fun u hu => by
          rcases List.mem_append.1 hu with hu | hu
          · exact hcs.out u hu
          · obtain rfl := List.mem_singleton.1 hu
            exact hcv
        clear hcv hcs
        have hE3 := hE.trans h3
        have hLl2 := (hR.fit (by omega)).2
        have hBe : ablk B ≠ some w.heap.size := fun e => by have := (hBl _ e).1; omega
        have row3 := hrow.fr h3.fr (fun g hg e => hBe (by rw [hg, e])) (fun b _ hz _ e => by omega)
        have hs3 := h3.fr.size
        have hv3 : v.ok w3 (fun b => w.heap.size + 1 ≤ b ∧ ablk B ≠ some b) := hv.mono (fun b _ hb => ⟨by omega, fun e => by have := (hBl b e).2; omega⟩)
        have hone := act_one1 v
        have hL2 : Hid (∀ t L' g', RdN j L2 f2 t L' g' → RdN n0 L0 f0 ((s ++ [v]).map AV.a ++ t) L' g') := fun t L' g' h => by
          rw [List.map_append, List.append_assoc]
          exact hL.out _ _ _ (.step hR h)
        clear hF h3 hL hv hR hk
        go_wp2_with (at_builtin; refine wpList_append_row _ rfl (.tmp 20) (.tmp 23) 50 rfl (w.heap.size + 1) 57 i0 _ 11 152 Try.underlying50 hi0 hz0 hz1 hz2 rfl (by omega) rfl (row3.row.alloc _) rfl (Rd.lit (xs := v.cells) (n := 1) rfl rfl rfl) hone (by simp only [maxLen]; omega) (by omega) (by rw [World.size_alloc]; omega) ?_; intro B4 d4 w4 hrow4 hg4 hat4)
        have hp := row3.push hv3 hrow4 hg4 hat4
        have hE4 := hE3.row hp.2 (fun k e => by have := (hBl k e).1; omega) (by omega) (fun b hb => by omega)
        go_roundw
        case rel => exact ⟨s ++ [v], B4, d4, j, L2, f2, by simp, by go_num, hp.1, hE4, hL2, by simp; omega, by omega, hcs2⟩
        case measure => simp [intOf]
      · have hgb : (g == 0) = false := by simpa using hg
        have hq := hfin.out (.bad hg)
        clear hfin hL
        go_wp2_with (first | (go_at_call 63; refine hF.out.mono ?_; rintro e w2 ⟨rfl, rfl⟩))
        refine hC.out.mono ?_
        rintro e w2 ⟨rfl, rfl⟩
        cases hcz : (closeS L g != 0)
        · have hcl : closeS L g = 0 := by simpa using hcz
          rw [if_neg (by simpa using hcl)] at hq
          have HQ := Lib.hid hq
          clear hq
          generalize closeS L g = k at *
          subst hcl
          go_wp2_with fail
          go_ret2
          exact ⟨B, d, s, 0, rfl, HQ.out, (hrow.acts (fun b hb _ => hb) (by omega)).mono (fun b _ hb => by omega), hbw, hcs.out⟩
        · have hcl : closeS L g ≠ 0 := by simpa using hcz
          rw [if_pos hcl] at hq
          have HQ := Lib.hid hq
          clear hq
          generalize closeS L g = k at *
          go_wp2_with fail
          go_ret2
          exact ⟨none, 0, [], k, rfl, HQ.out, ⟨Rd.nil, by simp, by simp⟩, hbw, by simp⟩
end Go.Proofs.Ytpbgcbpofhbgbaa
