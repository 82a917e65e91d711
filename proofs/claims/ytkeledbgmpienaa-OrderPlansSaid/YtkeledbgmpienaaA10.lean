/- slices.stableCmpFunc, slices.SortStableFunc at changes, of any length up to 100000. -/
import Derived.Test.YtkeledbgmpienaaA09
import Derived.LoopTactic
import Derived.WalkMore
import Derived.ScopeJumps
import Derived.Deep.RegionHeld3
import Derived.ChangeMaps5

namespace Go.Proofs.Ytkeledbgmpienaa
open Go.RowKit Go.WideShapes Go.ChangeShapes Go.ChangeAt


set_option maxRecDepth 100000 in
set_option maxHeartbeats 4000000 in
theorem stable_any (A : Option Addr) (c base : Nat) (X : List CV) (w : World) (h : RowC w base A c X) (hp : ∀ x ∈ X, x.p.size ≤ 140737488355328) (hl : X.length ≤ 100000) :
    Calls Try.prog 36 #[.slice A X.length c, .int .i64 (X.length : Int), .func (.func 24) #[] #[]] w fun e w' => e = .returned (.tuple #[]) ∧ RowC w' base A c (sortC ltC X) ∧ Fr (fun g => ablk A = some g) w w' := by
  have HR := Lib.hid h
  have HP := Lib.hid hp
  obtain ⟨N, hN⟩ : ∃ N, N = X.length := ⟨_, rfl⟩
  have HN := Lib.hid hN
  rw [← hN] at hl ⊢
  have hRI : Hid (∀ Y, SamF ltC X Y → ∀ W, RowC W base A c Y → ∀ a b, a ≤ b → b ≤ N → Calls Try.prog 53 #[.slice A N c, .int .i64 (a : Int), .int .i64 (b : Int), .func (.func 24) #[] #[]] W fun e w' => e = .returned (.tuple #[]) ∧ RowC w' base A c (Y.take a ++ sortC ltC ((Y.drop a).take (b - a)) ++ Y.drop b) ∧ Fr (fun g => ablk A = some g) W w') := Lib.hid (fun Y hY W hW a b hab hb => by
    have e : N = Y.length := by rw [hY.len]; exact hN
    have := insSort_any A c a b base Y W hW hab (by omega) (fun x hx => hp x (hY.mem ordC hx)) (by omega)
    rw [← e] at this
    exact this)
  have hRS : Hid (∀ Y, SamF ltC X Y → ∀ W, RowC W base A c Y → ∀ a s t b, a + s + t = b → b ≤ N → 0 < s → 0 < t → SegS ltC Y a (a + s) → SegS ltC Y (a + s) b → Calls Try.prog 54 #[.slice A N c, .int .i64 (a : Int), .int .i64 ((a + s : Nat) : Int), .int .i64 (b : Int), .func (.func 24) #[] #[]] W fun e w' => e = .returned (.tuple #[]) ∧ RowC w' base A c (Y.take a ++ sortC ltC ((Y.drop a).take (s + t)) ++ Y.drop b) ∧ Fr (fun g => ablk A = some g) W w') := Lib.hid (fun Y hY W hW a s t b hb hbN hs ht h1 h2 => by
    have e : N = Y.length := by rw [hY.len]; exact hN
    have l1 : (Y.take a).length = a := by rw [List.length_take]; omega
    have l2 : ((Y.drop a).take s).length = s := by rw [List.length_take, List.length_drop]; omega
    have l3 : ((Y.drop (a + s)).take t).length = t := by rw [List.length_take, List.length_drop]; omega
    have hc := cut4 Y a s t
    rw [hb] at hc
    have hW2 := hW
    rw [hc] at hW2
    have h1' := h1
    rw [hc, List.append_assoc (Y.take a ++ (Y.drop a).take s)] at h1'
    have h2' := h2
    rw [hc] at h2'
    have := symMerge_any A c N base (by omega) (b - a) a (a + s) b (Y.take a) ((Y.drop a).take s) ((Y.drop (a + s)).take t) (Y.drop b) W (by omega) hW2 (by rw [← hc]; exact e) l1 (by omega) (by omega) (by omega) (by omega) (h1'.mid l1 (by omega)) (h2'.mid (by rw [List.length_append]; omega) (by omega)) (fun z hz => hp z (hY.mem ordC (by
      rw [hc]
      simp only [List.mem_append] at hz ⊢
      rcases hz with hz | hz
      · exact .inl (.inl (.inr hz))
      · exact .inl (.inr hz))))
    have e2 : (Y.drop a).take s ++ (Y.drop (a + s)).take t = (Y.drop a).take (s + t) := by rw [List.take_add, List.drop_drop]
    rw [e2] at this
    exact this)
  have HCUT : Hid (∀ (Y : List CV) (a b : Nat), a ≤ b → Y = Y.take a ++ (Y.drop a).take (b - a) ++ Y.drop b) := Lib.hid (fun Y a b hab => by
    have := cut4 Y a (b - a) 0
    rw [List.take_zero, List.append_nil, Nat.add_zero, show a + (b - a) = b by omega] at this
    exact this)
  have hlen : Hid (∀ Y, SamF ltC X Y → Y.length = N) := Lib.hid (fun Y hY => by rw [hY.len]; exact hN.symm)
  clear h hp hN
  go_enter Try.func36, Try.ntmps36
  go_wp2_with fail
  go_loopw [7, 8] (fun av bv wr => ∃ (a q : Nat) (Y : List CV), av = .int .i64 (a : Int) ∧ bv = .int .i64 ((a + 20 : Nat) : Int) ∧ a ≤ N ∧ Hid (a = q * 20) ∧ Hid (SamF ltC X Y) ∧ Hid (DoneTo ltC 20 Y a) ∧ RowC wr base A c Y ∧ Fr (fun g => ablk A = some g) w wr) (fun av _ _ => N - (intOf av).toNat)
  case atStart => exact ⟨0, 0, X, rfl, rfl, Nat.zero_le _, Lib.hid rfl, Lib.hid (SamF.refl X), Lib.hid (DoneTo.zero (by decide)), HR.out, Fr.refl _ _⟩
  case round =>
    obtain ⟨a, q, Y, rfl, rfl, haN, HA, HS, HD, hr, hf⟩ := hrel
    obtain ⟨b, hb⟩ : ∃ b, b = a + 20 := ⟨_, rfl⟩
    have HB := Lib.hid hb
    rw [← hb]
    have hYN := hlen.out Y HS.out
    by_cases hlt : b ≤ N
    · have HI := Lib.hid (hRI.out Y HS.out wr hr a b (by omega) hlt)
      have hc := HCUT.out Y a b (by omega)
      have l1 : (Y.take a).length = a := by rw [List.length_take]; omega
      have l2 : ((Y.drop a).take (b - a)).length = 20 := by rw [List.length_take, List.length_drop]; omega
      obtain ⟨Y2, hY2⟩ : ∃ Y2, Y2 = Y.take a ++ sortC ltC ((Y.drop a).take (b - a)) ++ Y.drop b := ⟨_, rfl⟩
      rw [← hY2] at HI
      have HS2 : Hid (SamF ltC X Y2) := Lib.hid (by rw [hY2]; exact SamF.step ordC (by rw [← hc]; exact HS.out))
      have HD2 : Hid (DoneTo ltC 20 Y2 b) := Lib.hid (by rw [hY2, hb]; exact DoneTo.step (by decide) HA.out (by have := HD.out; rw [hc] at this; rw [hb] at this; exact this) l1 (by rw [← hb]; exact l2) (sortC_len _) (sortC_sorted ordC _))
      have HF := Lib.hid hf
      clear hr hf hc l1 l2 hY2 hb
      go_wp2_with fail
      refine HI.out.mono ?_
      rintro e w2 ⟨rfl, hr2, hf2⟩
      have HR2 := Lib.hid hr2
      have HF2 := Lib.hid (HF.out.trans hf2 (fun _ _ e => e))
      clear hr2 hf2 HI HF
      go_wp2_with fail
      go_roundw
      case rel => exact ⟨b, q + 1, Y2, rfl, by go_num, hlt, Lib.hid (by rw [Nat.succ_mul, ← HA.out]; exact HB.out), HS2, HD2, HR2.out, HF2.out⟩
      case measure => have := HB.out; simp [intOf]; omega
    · have HI := Lib.hid (hRI.out Y HS.out wr hr a N haN (Nat.le_refl _))
      have hc := HCUT.out Y a N haN
      have l1 : (Y.take a).length = a := by rw [List.length_take]; omega
      obtain ⟨Y2, hY2⟩ : ∃ Y2, Y2 = Y.take a ++ sortC ltC ((Y.drop a).take (N - a)) ++ Y.drop N := ⟨_, rfl⟩
      rw [← hY2] at HI
      have HS2 : Hid (SamF ltC X Y2) := Lib.hid (by rw [hY2]; exact SamF.step ordC (by rw [← hc]; exact HS.out))
      have HD2 : Hid (AllS ltC 20 Y2) := Lib.hid (by
        refine DoneTo.all (a := a) (q := q) (n := N) HA.out (hlen.out Y2 HS2.out) ?_ ?_
        · intro k hk
          refine (HD.out k hk).congr fun i h2 h3 => ?_
          rw [hY2]
          conv => rhs; rw [hc]
          exact out_get (sortC_len _) (.inl (by omega))
        · rw [hY2]
          exact SegS.of_mid l1 (by rw [sortC_len, List.length_take, List.length_drop]; omega) (sortC_sorted ordC _))
      have HF := Lib.hid hf
      clear hr hf hc l1 hY2 hb
      go_wp2_with fail
      refine HI.out.mono ?_
      rintro e w2 ⟨rfl, hr2, hf2⟩
      have HR2 := Lib.hid hr2
      have HF2 := Lib.hid (HF.out.trans hf2 (fun _ _ e => e))
      clear hr2 hf2 HI HF HA HS HD HB hYN
      go_wp2_with fail
      go_loopw [6, 7, 8, 9] (fun nv _ _ _ wr => ∃ (s : Nat) (Y : List CV), nv = .int .i64 (s : Int) ∧ 0 < s ∧ s ≤ 400000 ∧ Hid (SamF ltC X Y) ∧ Hid (AllS ltC s Y) ∧ RowC wr base A c Y ∧ Fr (fun g => ablk A = some g) w wr) (fun nv _ _ _ _ => N - (intOf nv).toNat)
      case atStart => exact ⟨20, Y2, rfl, by decide, by decide, HS2, HD2, HR2.out, HF2.out⟩
      case round =>
        clear HS2 HD2 HR2 HF2
        obtain ⟨s, Y, rfl, hs, hs4, HS, HD, hr, hf⟩ := hrel
        by_cases hlt : s < N
        · have HR3 := Lib.hid hr
          have HF3 := Lib.hid hf
          clear hr hf
          obtain ⟨s2, hs2⟩ : ∃ s2, s2 = 2 * s := ⟨_, rfl⟩
          have hws : IntKind.i64.wrap (2 * (s : Int)) = (s2 : Int) := by rw [IntKind.wrap_i64]; omega
          have hws2 : IntKind.i64.wrap ((s : Int) * 2) = (s2 : Int) := by rw [IntKind.wrap_i64]; omega
          have HS2E := Lib.hid hs2
          have hs2p : 0 < s2 ∧ s2 ≤ 200000 := by omega
          obtain ⟨hs2p, hs2u⟩ := hs2p
          clear hs2
          go_wp2_with fail
          go_loopw [7, 8] (fun av bv wr => ∃ (a q : Nat) (Y : List CV), av = .int .i64 (a : Int) ∧ bv = .int .i64 ((a + s2 : Nat) : Int) ∧ a ≤ N ∧ Hid (a = q * s2) ∧ Hid (SamF ltC X Y) ∧ Hid (DoneTo ltC s2 Y a) ∧ Hid (RestFrom ltC s Y a) ∧ RowC wr base A c Y ∧ Fr (fun g => ablk A = some g) w wr) (fun av _ _ => N - (intOf av).toNat)
          case atStart => exact ⟨0, 0, Y, rfl, by simp, Nat.zero_le _, Lib.hid (by simp), HS, Lib.hid (DoneTo.zero hs2p), Lib.hid HD.out.rest, HR3.out, HF3.out⟩
          case round =>
            clear HR3 HF3 HS HD
            obtain ⟨a, q, Y, rfl, rfl, haN, HA, HS, HD, HT, hr, hf⟩ := hrel
            obtain ⟨b, hb⟩ : ∃ b, b = a + s2 := ⟨_, rfl⟩
            obtain ⟨m, hm⟩ : ∃ m, m = a + s := ⟨_, rfl⟩
            have HB := Lib.hid hb
            have HM := Lib.hid hm
            have hwm : IntKind.i64.wrap ((a : Int) + (s : Int)) = (m : Int) := by rw [IntKind.wrap_i64]; omega
            rw [← hb]
            have hYN := hlen.out Y HS.out
            have HA2 : Hid (a = q * (2 * s)) := Lib.hid (by rw [← HS2E.out]; exact HA.out)
            have hsg1 := HT.out.one HA2.out
            have hsg2 := HT.out.two HA2.out
            have l1 : (Y.take a).length = a := by rw [List.length_take]; omega
            by_cases hlt2 : b ≤ N
            · have hwb : IntKind.i64.wrap ((b : Int) + (s2 : Int)) = ((b + s2 : Nat) : Int) := by rw [IntKind.wrap_i64]; omega
              have HI := Lib.hid (hRS.out Y HS.out wr hr a s s b (by rw [hb, HS2E.out]; omega) hlt2 hs hs hsg1 (by rw [hb, HS2E.out, Nat.two_mul, ← Nat.add_assoc]; exact hsg2))
              have hc := HCUT.out Y a b (by omega)
              rw [← hm, show s + s = b - a by rw [hb, HS2E.out]; omega] at HI
              have l2 : ((Y.drop a).take (b - a)).length = s2 := by rw [List.length_take, List.length_drop]; omega
              obtain ⟨Y2, hY2⟩ : ∃ Y2, Y2 = Y.take a ++ sortC ltC ((Y.drop a).take (b - a)) ++ Y.drop b := ⟨_, rfl⟩
              rw [← hY2] at HI
              have HS2 : Hid (SamF ltC X Y2) := Lib.hid (by rw [hY2]; exact SamF.step ordC (by rw [← hc]; exact HS.out))
              have HD2 : Hid (DoneTo ltC s2 Y2 b) := Lib.hid (by
                have hd := HD.out
                rw [hc] at hd
                have := hd.step hs2p HA.out l1 l2 (sortC_len _) (sortC_sorted ordC _)
                rw [hY2]
                rw [← hb] at this
                exact this)
              have HT2 : Hid (RestFrom ltC s Y2 b) := Lib.hid (by
                have hd := HT.out
                rw [hc] at hd
                have := hd.step (M' := sortC ltC ((Y.drop a).take (b - a))) l1 l2 (sortC_len _)
                rw [hY2]
                rw [← hb] at this
                exact this)
              have HF := Lib.hid hf
              clear hr hf hc l1 l2 hY2 hb hm hsg1 hsg2
              go_wp2_with fail
              refine HI.out.mono ?_
              rintro e w2 ⟨rfl, hr2, hf2⟩
              have HR2 := Lib.hid hr2
              have HF2 := Lib.hid (HF.out.trans hf2 (fun _ _ e => e))
              clear hr2 hf2 HI HF
              go_wp2_with fail
              go_roundw
              case rel => exact ⟨b, q + 1, Y2, rfl, rfl, hlt2, Lib.hid (by rw [Nat.succ_mul, ← HA.out]; exact HB.out), HS2, HD2, HT2, HR2.out, HF2.out⟩
              case measure => have := HB.out; simp [intOf]; omega
            · by_cases hmN : m < N
              · have HI := Lib.hid (hRS.out Y HS.out wr hr a s (N - m) N (by omega) (Nat.le_refl _) hs (by omega) hsg1 (fun i j x y g1 g2 g3 g4 g5 => hsg2 i j x y g1 g2 (by have := HS2E.out; omega) g4 g5))
                have hc := HCUT.out Y a N haN
                rw [← hm, show s + (N - m) = N - a by omega] at HI
                obtain ⟨Y2, hY2⟩ : ∃ Y2, Y2 = Y.take a ++ sortC ltC ((Y.drop a).take (N - a)) ++ Y.drop N := ⟨_, rfl⟩
                rw [← hY2] at HI
                have HS2 : Hid (SamF ltC X Y2) := Lib.hid (by rw [hY2]; exact SamF.step ordC (by rw [← hc]; exact HS.out))
                have HD2 : Hid (AllS ltC s2 Y2) := Lib.hid (by
                  refine DoneTo.all (a := a) (q := q) (n := N) HA.out (hlen.out Y2 HS2.out) ?_ ?_
                  · intro k hk
                    refine (HD.out k hk).congr fun i h2 h3 => ?_
                    rw [hY2]
                    conv => rhs; rw [hc]
                    exact out_get (sortC_len _) (.inl (by omega))
                  · rw [hY2]
                    exact SegS.of_mid l1 (by rw [sortC_len, List.length_take, List.length_drop]; omega) (sortC_sorted ordC _))
                have HF := Lib.hid hf
                clear hr hf hc l1 hY2 hb hm hsg1 hsg2
                go_wp2_with fail
                refine HI.out.mono ?_
                rintro e w2 ⟨rfl, hr2, hf2⟩
                have HR2 := Lib.hid hr2
                have HF2 := Lib.hid (HF.out.trans hf2 (fun _ _ e => e))
                clear hr2 hf2 HI HF
                go_wp2_with fail
                go_roundw
                case rel => exact ⟨s2, Y2, rfl, hs2p, by omega, HS2, HD2, HR2.out, HF2.out⟩
                case measure => have := HS2E.out; simp [intOf]; omega
              · have HD2 : Hid (AllS ltC s2 Y) := Lib.hid (by
                  refine DoneTo.all (a := a) (q := q) (n := N) HA.out hYN HD.out ?_
                  exact fun i j x y g1 g2 g3 g4 g5 => hsg1 i j x y g1 g2 (by omega) g4 g5)
                have HR2 := Lib.hid hr
                have HF2 := Lib.hid hf
                clear hr hf l1 hb hm hsg1 hsg2
                go_wp2_with fail
                go_roundw
                case rel => exact ⟨s2, Y, rfl, hs2p, by omega, HS, HD2, HR2.out, HF2.out⟩
                case measure => have := HS2E.out; simp [intOf]; omega
        · have HRE : Hid (RowC wr base A c (sortC ltC X)) := Lib.hid (by
            rw [← HS.out.eq ordC (HD.out.whole (by rw [hlen.out Y HS.out]; omega))]; exact hr)
          have HFE := Lib.hid hf
          clear hr hf
          go_wp2_with fail
          go_end0
          exact ⟨rfl, HRE.out, HFE.out⟩
theorem sortsAll : SortsC 100000 := by
  intro A c base X w h hp hl
  have HS := Lib.hid (stable_any A c base X w h hp hl)
  clear h
  go_enter Try.func23, Try.ntmps23
  go_wp2_with fail
  refine HS.out.mono ?_
  rintro e w1 ⟨rfl, hr1, hf1⟩
  have HR1 := Lib.hid hr1
  clear hr1
  go_wp2_with fail
  go_end0
  exact ⟨rfl, HR1.out, hf1⟩

end Go.Proofs.Ytkeledbgmpienaa

/- tenderlaw28: lives. -/
namespace Go.Proofs.Ytkeledbgmpienaa
open Go.RowKit Go.WideShapes Go.ChangeShapes Go.ChangeAt Go.Maps

def lo1 : CV := ⟨⟨#[97]⟩, 0, true, false, 0, 0, 0, 0, 1⟩
def lo2 : CV := ⟨⟨#[97, 47, 98]⟩, 0, true, false, 0, 0, 0, 0, 1⟩
def lo3 : CV := ⟨⟨#[99]⟩, 0, true, false, 1, 0, 0, 0, 1⟩
theorem lo_plan : planS [lo1, lo2, lo3] = [lo2, lo1, lo3] := by kernel_rfl
theorem lo_rem : remB lo2 = true := by kernel_rfl
set_option maxRecDepth 100000 in
set_option maxHeartbeats 1000000 in
theorem lives28_any (w : World) : Calls Try.prog 6 #[] w fun e w' => e = .returned (.bool true) ∧ Below w.heap.size w w' := by
  have hcl : Hid (([lo1, lo2, lo3] : List CV).flatMap CV.cells = [.string ⟨#[97]⟩, .int .i64 0, .bool true, .bool false, .int .i64 0, .int .i64 0, .int .i64 0, .int .i64 0, .int .i64 1, .string ⟨#[97, 47, 98]⟩, .int .i64 0, .bool true, .bool false, .int .i64 0, .int .i64 0, .int .i64 0, .int .i64 0, .int .i64 1, .string ⟨#[99]⟩, .int .i64 0, .bool true, .bool false, .int .i64 1, .int .i64 0, .int .i64 0, .int .i64 0, .int .i64 1]) := rfl
  go_enter Try.func6, Try.ntmps6
  go_wp2_with fail
  refine (orderPlan_any 19 sorts19 (by decide) (some ⟨w.heap.size, 0, none⟩) 3 [lo1, lo2, lo3] (fun b => w.heap.size ≤ b) _ (Rd.lit (by rw [hcl.out]) rfl rfl) ?_ (by decide)).mono ?_
  · intro o ho
    simp only [List.mem_cons, List.not_mem_nil, or_false] at ho
    rcases ho with rfl | rfl | rfl <;> decide
  rintro e w1 ⟨A', c', rfl, hrd, hb⟩
  rw [lo_plan] at hrd ⊢
  have hb1 : Below w.heap.size w w1 := ((Below.refl _ _).alloc (Nat.le_refl _) _).trans (hb.mono (by simp))
  obtain ⟨b, off, rfl, _, hbb, q0⟩ := ch_at (i := 0) hrd.rd (by simp)
  obtain ⟨b', off', e', _, _, q1⟩ := ch_at (i := 1) hrd.rd (by simp)
  obtain ⟨rfl, rfl⟩ : b = b' ∧ off = off' := by simpa using e'
  obtain ⟨b', off', e'', _, _, q2⟩ := ch_at (i := 2) hrd.rd (by simp)
  obtain ⟨rfl, rfl⟩ : b = b' ∧ off = off' := by simpa using e''
  obtain ⟨a0, a1, a2, a3, a4, a5, a6, a7, a8⟩ := q0
  obtain ⟨b0, _, _, _, _, _, _, _, _⟩ := q1
  obtain ⟨c0, _, _, _, _, _, _, _, _⟩ := q2
  replace a0 : w1.cell? ⟨b, off, none⟩ = some (.string ⟨#[97, 47, 98]⟩) := a0
  replace a1 : w1.cell? ⟨b, off + 1, none⟩ = some (.int .i64 0) := a1
  replace a2 : w1.cell? ⟨b, off + 2, none⟩ = some (.bool true) := a2
  replace a3 : w1.cell? ⟨b, off + 3, none⟩ = some (.bool false) := a3
  replace a4 : w1.cell? ⟨b, off + 4, none⟩ = some (.int .i64 0) := a4
  replace a5 : w1.cell? ⟨b, off + 5, none⟩ = some (.int .i64 0) := a5
  replace a6 : w1.cell? ⟨b, off + 6, none⟩ = some (.int .i64 0) := a6
  replace a7 : w1.cell? ⟨b, off + 7, none⟩ = some (.int .i64 0) := a7
  replace a8 : w1.cell? ⟨b, off + 8, none⟩ = some (.int .i64 1) := a8
  replace b0 : w1.cell? ⟨b, off + 9, none⟩ = some (.string ⟨#[97]⟩) := b0
  replace c0 : w1.cell? ⟨b, off + 18, none⟩ = some (.string ⟨#[99]⟩) := c0
  have HR := Lib.hid (fun W => removes_any lo2 W)
  rw [lo_rem] at HR
  have hv2 : lo2.val = .agg #[.string ⟨#[97, 47, 98]⟩, .int .i64 0, .bool true, .bool false, .int .i64 0, .int .i64 0, .int .i64 0, .int .i64 0, .int .i64 1] := rfl
  rw [hv2] at HR
  clear hv2
  clear hrd hb e' e''
  go_wp2_with fail
  refine (HR.out _).mono ?_
  rintro e w2 ⟨rfl, hb2⟩
  go_wp2_with fail
  go_ret
  exact ⟨rfl, hb1.trans (hb2.mono hb1.size)⟩
end Go.Proofs.Ytkeledbgmpienaa

/- tenderref26.Clash; fence.clash, Clash. -/
namespace Go.Proofs.Ytkeledbgmpienaa
open Go.RowKit Go.WideShapes Go.ChangeShapes Go.ChangeAt

theorem side_two {w : World} {b : Nat} {t : TypeId} {x y x' y' : Value} (h : Blk w b t #[x, y]) :
    Blk ((w.setCell ⟨b, 0, none⟩ x').setCell ⟨b, 1, none⟩ y') b t #[x', y'] ∧ Fr (fun k => k = b) w ((w.setCell ⟨b, 0, none⟩ x').setCell ⟨b, 1, none⟩ y') := by
  refine ⟨?_, ((Fr.refl (fun k => k = b) w).setAt b 0 rfl _).setAt b 1 rfl _⟩
  have := (h.set_ 0 x').set_ 1 y'
  simpa using this

end Go.Proofs.Ytkeledbgmpienaa

/- fence.Clash, Sound. -/
namespace Go.Proofs.Ytkeledbgmpienaa
open Go.RowKit Go.WideShapes Go.ChangeShapes Go.ChangeAt

/-- is there a clash of two? -/
def clB (p q : CV) : Bool := upB p q || lowB p q

/-- is none in a clash with any? -/
def soundB (l : List CV) : Bool := l.all fun p => l.all fun q => !(clB p q)
theorem soundB_iff (l : List CV) : soundB l = true ↔ ∀ (i k : Nat) (a b : CV), l[i]? = some a → l[k]? = some b → clB a b = false := by
  unfold soundB
  simp only [List.all_eq_true, Bool.not_eq_true']
  constructor
  · intro h i k a b ha hb
    exact h a (List.mem_of_getElem? ha) b (List.mem_of_getElem? hb)
  · intro h a ha b hb
    obtain ⟨i, hi⟩ := List.mem_iff_getElem?.1 ha
    obtain ⟨k, hk⟩ := List.mem_iff_getElem?.1 hb
    exact h i k a b hi hk
theorem soundB_no {l : List CV} {i k : Nat} {a b : CV} (ha : l[i]? = some a) (hb : l[k]? = some b) (h : clB a b = true) : soundB l = false := by
  cases hs : soundB l with
  | false => rfl
  | true => rw [(soundB_iff l).1 hs i k a b ha hb] at h; cases h
theorem closed_sound (l : List CV) : soundB l = true ↔ Closed l := by
  rw [soundB_iff]
  unfold clB
  simp only [Bool.or_eq_false_iff]
  exact ⟨fun h => closed_of h, fun h i k a b ha hb => h.pair (List.mem_of_getElem? ha) (List.mem_of_getElem? hb)⟩
theorem blk9 {w : World} {g : Nat} {x : CV} (h : Blk w g 26 x.cells.toArray) : At9 w g 0 x := by
  obtain ⟨a0, a1, a2, a3, a4, a5, a6, a7, a8⟩ := cells9 h
  exact ⟨a0, a1, a2, a3, a4, a5, a6, a7, a8⟩

end Go.Proofs.Ytkeledbgmpienaa

/- fence.Close. -/
namespace Go.Proofs.Ytkeledbgmpienaa
open Go.RowKit Go.WideShapes Go.ChangeShapes Go.ChangeAt

section
variable {P : Program} {a : Act} {w : World} {Q : Exit → Act → World → Prop}
/-- A scope in which the run jumps back to one label: what holds at every jump, with a number that every pass lowers; the way to the label is walked once. -/
theorem Turns.paths {l x : List CV} (h : Turns l x) : x.map CV.p = l.map CV.p := by
  induction h with
  | none => rfl
  | turn _ _ ih => rw [← ih]; simp [CV.conf]
theorem Turns.path {l x : List CV} (h : Turns l x) {i : Nat} {a : CV} (ha : x[i]? = some a) : a.p ∈ l.map CV.p := by
  rw [← h.paths]
  exact List.mem_map_of_mem (List.mem_of_getElem? ha)
theorem wp_scope_ghost {c rest r : Code} (l : Nat) (J : Nat → Act → World → Prop) (hf : findLabel c l = some rest) (hr : ∀ Q a w, r.wp P Q a w → rest.wp P Q a w)
    (pass' : ∀ n a w, J n a w → r.wp P (Exit.jump l (fun a' w' => ∃ m, m < n ∧ J m a' w') Q) a w)
    (first : (∀ n a w, J n a w → r.wp P (Exit.jump l (fun a' w' => ∃ m, J m a' w') Q) a w) → c.wp P (Exit.jump l (fun a' w' => ∃ m, J m a' w') Q) a w) : (Code.scope c).wp P Q a w := by
  have first' := first (fun n a w hJ => Code.wp_mono (fun e a' w' h => by
    cases e with
    | goto l' => obtain ⟨h1, m, _, h2⟩ := h; exact ⟨h1, m, h2⟩
    | normal => exact h
    | exit id => exact h
    | ret => exact h
    | panic ch => exact h
    | outgrown => exact h) (pass' n a w hJ))
  have pass := fun n a w hJ => hr _ _ _ (pass' n a w hJ)
  intro b k cs
  have hg : gotoIn l (.inScope c :: k) = some (.code rest :: .inScope c :: k) := by simp [gotoIn, hf]
  have key : ∀ n a w, J n a w → ∃ e a' w', Q e a' w' ∧ Arrives P (lone (b.at a (.code rest :: .inScope c :: k)) cs w) b k cs e a' w' := by
    intro n
    induction n using Nat.strongRecOn with
    | _ n ih =>
      intro a w hJ
      obtain ⟨e, a₁, w₁, hq, harr⟩ := pass n a w hJ b (.inScope c :: k) cs
      cases e with
      | normal => exact ⟨.normal, a₁, w₁, hq, Steps.trans harr (.one step_inScope)⟩
      | exit id => exact ⟨.exit id, a₁, w₁, hq, fun k' hk => harr k' (by simp [exitTo, hk])⟩
      | goto l' =>
        obtain ⟨rfl, m, hlt, hJ'⟩ := hq
        obtain ⟨e₂, a₂, w₂, hq₂, harr₂⟩ := ih m hlt a₁ w₁ hJ'
        exact ⟨e₂, a₂, w₂, hq₂, .of_steps (harr _ hg) harr₂⟩
      | ret => exact ⟨_, a₁, w₁, hq, harr⟩
      | panic ch => exact ⟨_, a₁, w₁, hq, harr⟩
      | outgrown => exact ⟨_, a₁, w₁, hq, harr⟩
  obtain ⟨e, a₁, w₁, hq, harr⟩ := first' b (.inScope c :: k) cs
  cases e with
  | normal => exact ⟨.normal, a₁, w₁, hq, .head step_scope (Steps.trans harr (.one step_inScope))⟩
  | exit id => exact ⟨.exit id, a₁, w₁, hq, fun k' hk => .head step_scope (harr k' (by simp [exitTo, hk]))⟩
  | goto l' =>
    obtain ⟨rfl, m, hJ'⟩ := hq
    obtain ⟨e₂, a₂, w₂, hq₂, harr₂⟩ := key m a₁ w₁ hJ'
    exact ⟨e₂, a₂, w₂, hq₂, .of_steps (.head step_scope (harr _ hg)) harr₂⟩
  | ret => exact ⟨_, a₁, w₁, hq, .of_steps (.one step_scope) harr⟩
  | panic ch => exact ⟨_, a₁, w₁, hq, .of_steps (.one step_scope) harr⟩
  | outgrown => exact ⟨_, a₁, w₁, hq, .of_steps (.one step_scope) harr⟩
end


/-- what holds at the label -/
def ClJ (w : World) (v : Value) (l : List CV) (n : Nat) (a : Act) (w' : World) : Prop :=
  ∃ (A : Option Addr) (c N : Nat) (x : List CV) (u4 u5 u6 u7 u8 u9 u10 u11 u12 u13 u14 u15 u16 u17 u18 u19 u20 u21 u22 u23 u24 u25 u26 u27 u28 u29 u30 u31 u32 u33 u34 u35 u36 u37 u38 u39 u40 u41 u42 u43 u44 u45 u46 u47 u48 : Value), a = { tmps := #[v, undef, .slice none 0 0, .slice A N c, u4, u5, u6, u7, u8, u9, u10, u11, u12, u13, u14, u15, u16, u17, u18, u19, u20, u21, u22, u23, u24, u25, u26, u27, u28, u29, u30, u31, u32, u33, u34, u35, u36, u37, u38, u39, u40, u41, u42, u43, u44, u45, u46, u47, u48], defers := [] } ∧ x.length = N ∧
    Turns l x ∧ mv x = n ∧ Row w' w.heap.size 26 9 A x.length c (x.flatMap CV.cells) ∧ Below w.heap.size w w'


end Go.Proofs.Ytkeledbgmpienaa

/- tenderlaw26: Light, lives. -/
namespace Go.Proofs.Ytkeledbgmpienaa
open Go.RowKit Go.WideShapes Go.ChangeShapes Go.ChangeAt

def lensF (l : List CV) : Nat := (l.map fun o => o.p.size).sum
def lightF (l : List CV) : Bool := decide (l.length ≤ 40) && decide (lensF l ≤ 3000)
theorem lensF_take (l : List CV) (i : Nat) (hi : i < l.length) : lensF (l.take (i + 1)) = lensF (l.take i) + l[i].p.size := by
  unfold lensF
  rw [List.take_succ_eq_append_getElem hi, List.map_append, List.sum_append]
  simp
theorem lensF_le (K : Nat) : ∀ (l : List CV), (∀ o ∈ l, o.p.size ≤ K) → lensF l ≤ l.length * K
  | [], _ => by simp [lensF]
  | o :: l, h => by
    have h1 := h o (by simp)
    have h2 := lensF_le K l (fun o ho => h o (by simp [ho]))
    simp only [lensF, List.map_cons, List.sum_cons, List.length_cons, Nat.add_mul] at h2 ⊢
    omega
theorem lensF_take_le (K : Nat) (l : List CV) (i : Nat) (h : ∀ o ∈ l, o.p.size ≤ K) : lensF (l.take i) ≤ i * K := by
  have h1 := lensF_le K (l.take i) (fun o ho => h o (List.mem_of_mem_take ho))
  have h2 : (l.take i).length ≤ i := List.length_take_le _ _
  have h3 : (l.take i).length * K ≤ i * K := Nat.mul_le_mul_right _ h2
  omega
def SeenF (l : List CV) (i : Nat) (s : Int) : Prop := i ≤ 40 → s = (lensF (l.take i) : Int)
theorem seenF_step {l : List CV} {i : Nat} {s : Int} (hs : SeenF l i s) (hi : i < l.length) (h : ∀ o ∈ l, o.p.size ≤ 140737488355328) : SeenF l (i + 1) (wrap64 (s + (l[i].p.size : Int))) := by
  intro hi2
  have e := hs (by omega)
  have h1 := lensF_take_le 140737488355328 l (i + 1) h
  have h2 := lensF_take l i hi
  have h3 : (i + 1) * 140737488355328 ≤ 41 * 140737488355328 := Nat.mul_le_mul_right _ (by omega)
  rw [h2] at h1 ⊢
  rw [e, IntWalk.wrap64_in _ ⟨by omega, by omega⟩]
  omega

set_option maxRecDepth 100000 in
set_option maxHeartbeats 400000 in
theorem lightF_any (A : Option Addr) (c : Nat) (l : List CV) (Z : Nat → Prop) (w : World) (h : Chs w Z A l) :
    Calls Try.prog 5 #[.slice A l.length c] w fun e w' => e = .returned (.bool (lightF l)) ∧ Below w.heap.size w w' := by
  have hlen := h.len
  go_enter Try.func5, Try.ntmps5
  go_wp2_with fail
  go_loopw [3, 8] (fun sv iv wr => ∃ (i : Nat) (s : Int), i ≤ l.length ∧ iv = .int .i64 (i : Int) ∧ sv = .int .i64 s ∧ SeenF l i s ∧ Below w.heap.size w wr) (fun _ iv _ => l.length - (intOf iv).toNat)
  case atStart => exact ⟨0, 0, Nat.zero_le _, rfl, rfl, by intro _; simp [lensF], Below.refl _ _⟩
  case round =>
    obtain ⟨i, s, hi, rfl, rfl, hs, hb⟩ := hrel
    by_cases hlt : i < l.length
    · obtain ⟨b, off, rfl, hz, hbb, at1⟩ := ch_at (h.rd.below hb) hlt
      obtain ⟨a0, a1, a2, a3, a4, a5, a6, a7, a8⟩ := at1
      have hsz := hb.size
      have hpl := h.p _ (List.getElem_mem hlt)
      have hst := Lib.hid (seenF_step hs hlt h.p)
      generalize l[i] = o at *
      obtain ⟨p, bb, m, t, k, oo, ss, ll, v⟩ := o
      dsimp only at *
      go_wp2_with fail
      go_roundw
      case rel => exact ⟨i + 1, _, hlt, by go_num, rfl, hst.out, (hb.alloc hsz _)⟩
      case measure => simp [intOf]; omega
    · have e : i = l.length := by omega
      subst e
      by_cases h2 : l.length ≤ 40
      · have hss := hs h2
        rw [List.take_length] at hss
        subst hss
        go_wp2
        all_goals
          go_ret
          exact ⟨ret_b (by unfold lightF; rw [Bool.eq_iff_iff]; simp; omega), hb⟩
      · go_wp2
        all_goals
          go_ret
          exact ⟨ret_b (by unfold lightF; rw [Bool.eq_iff_iff]; simp; omega), hb⟩
theorem lightF_len {l : List CV} (h : lightF l = true) : l.length ≤ 40 := by
  unfold lightF at h
  simp only [Bool.and_eq_true, decide_eq_true_eq] at h
  exact h.1

def lv1 : CV := ⟨⟨#[100]⟩, 2, true, false, 0, 2, 0, 0, 1⟩
def lv2 : CV := ⟨⟨#[100, 47, 97]⟩, 1, true, false, 0, 1, 0, 0, 1⟩
def lv3 : CV := ⟨⟨#[100, 47, 98]⟩, 0, false, true, 0, 1, 0, 0, 2⟩
theorem lv_closes : Closes [lv1, lv2, lv3] [lv1.conf, lv2.conf, lv3.conf] := by
  have u13 : upB lv1 lv3 = true := by kernel_rfl
  have l12 : lowB lv1.conf lv2 = true := by kernel_rfl
  have l13 : lowB lv1.conf lv3 = true := by kernel_rfl
  refine ⟨?_, ?_⟩
  · have t1 : Turns [lv1, lv2, lv3] ([] ++ lv1.conf :: [lv2, lv3]) := .turn (p := []) (s := [lv2, lv3]) .none (.inl ⟨lv3, by simp, u13⟩)
    have t2 : Turns [lv1, lv2, lv3] ([lv1.conf] ++ lv2.conf :: [lv3]) := .turn (p := [lv1.conf]) (s := [lv3]) t1 (.inr ⟨lv1.conf, by simp, l12⟩)
    exact .turn (p := [lv1.conf, lv2.conf]) (s := []) t2 (.inr ⟨lv1.conf, by simp, l13⟩)
  · intro a ha hf
    have := hf.movesB
    simp only [List.mem_cons, List.not_mem_nil, or_false] at ha
    rcases ha with rfl | rfl | rfl <;> simp [movesB, CV.conf] at this
end Go.Proofs.Ytkeledbgmpienaa

/- What is light has short paths. Plain. -/
namespace Go.Proofs.Ytkeledbgmpienaa

theorem lightF_path {l : List CV} (h : lightF l = true) : ∀ x ∈ l, x.p.size ≤ 1048576 := by
  unfold lightF at h
  simp only [Bool.and_eq_true, decide_eq_true_eq] at h
  intro x hx
  have h1 : ∀ (l : List CV), x ∈ l → x.p.size ≤ lensF l := by
    intro l
    induction l with
    | nil => intro h; cases h
    | cons y l ih =>
      intro h
      unfold lensF at ih ⊢
      rw [List.map_cons, List.sum_cons]
      rcases List.mem_cons.1 h with rfl | h
      · omega
      · have := ih h; omega
  have := h1 l hx
  omega
end Go.Proofs.Ytkeledbgmpienaa

/- tenderlaw28: OrderPlans. -/
namespace Go.Proofs.Ytkeledbgmpienaa
open Go.RowKit Go.WideShapes Go.ChangeShapes Go.ChangeAt

theorem planS_mem {l : List CV} {x : CV} (h : x ∈ planS l) : x ∈ l := by
  unfold planS at h
  rcases List.mem_append.1 h with h | h
  · exact sortC_mem.1 (List.mem_filter.1 (List.mem_reverse.1 h)).1
  · exact sortC_mem.1 (List.mem_filter.1 h).1
theorem planS_len (l : List CV) : (planS l).length ≤ 2 * l.length := by
  unfold planS
  have h1 := List.length_filter_le remB (sortC ltC l)
  have h2 := List.length_filter_le keepB (sortC ltC l)
  rw [sortC_len] at h1 h2
  rw [List.length_append, List.length_reverse]; omega
theorem sorts1000 : SortsC 1000 := fun A c base X w h hp hl => sortsAll A c base X w h hp (by omega)

set_option maxRecDepth 100000 in
set_option maxHeartbeats 2000000 in
theorem orderPlans_any (A : Option Addr) (c : Nat) (l : List CV) (w : World) (h : Chs w (fun b => b < w.heap.size) A l) :
    Calls Try.prog 3 #[.slice A l.length c] w fun e w' => e = .returned (.bool true) ∧ Below w.heap.size w w' := by
  have HH := Lib.hid h
  have HLI := Lib.hid (lightF_any A c l _ w h)
  obtain ⟨L, hL⟩ : ∃ L, L = lightF l := ⟨_, rfl⟩
  rw [← hL] at HLI
  clear h
  go_enter Try.func3, Try.ntmps3
  go_wp2_with fail
  refine HLI.out.mono ?_
  rintro e w1 ⟨rfl, hb1⟩
  clear HLI
  cases L
  · clear hL
    go_wp2_with fail
    refine (lives28_any _).mono ?_
    rintro e wl ⟨rfl, hbl⟩
    have hfin := hb1.trans (hbl.mono hb1.size)
    go_wp2_with fail
    go_ret
    exact ⟨rfl, hfin⟩
  · have hlen := lightF_len hL.symm
    have HPT := Lib.hid (lightF_path hL.symm)
    clear hL
    go_wp2_with fail
    go_loopw [11] (fun iv wr => ∃ i : Nat, i ≤ l.length ∧ iv = .int .i64 (i : Int) ∧ Below w.heap.size w wr) (fun iv _ => l.length - (intOf iv).toNat)
    case atStart => exact ⟨0, Nat.zero_le _, rfl, hb1⟩
    case round =>
      obtain ⟨i, hi, rfl, hb⟩ := hrel
      by_cases hlt : i < l.length
      · obtain ⟨b, off, rfl, _, hbb, at1⟩ := ch_at (HH.out.rd.below hb) hlt
        obtain ⟨x, hx⟩ : ∃ x, x = l[i] := ⟨_, rfl⟩
        rw [← hx] at at1
        have hba : Below wr.heap.size wr (wr.alloc (.cells #[.string x.p, .int .i64 x.b, .bool x.m, .bool x.t, .int .i64 x.k, .int .i64 x.o, .int .i64 x.s, .int .i64 x.l, .int .i64 x.v] 26)) := (Below.refl _ _).alloc (Nat.le_refl _) _
        have bc : Blk (wr.alloc (.cells #[.string x.p, .int .i64 x.b, .bool x.m, .bool x.t, .int .i64 x.k, .int .i64 x.o, .int .i64 x.s, .int .i64 x.l, .int .i64 x.v] 26)) wr.heap.size 26 x.cells.toArray := Blk.new wr _ _
        have hr3 := hb.trans (hba.mono hb.size)
        have HM1 := Lib.hid (fun W => removes_any x W)
        have HM2 := Lib.hid (fun W => removesR_any x W)
        obtain ⟨R, hR⟩ : ∃ R, R = remB x := ⟨_, rfl⟩
        rw [← hR] at HM1 HM2
        obtain ⟨a0, a1, a2, a3, a4, a5, a6, a7, a8⟩ := at1
        clear hx hR
        go_upto_region 6 with (fail)
        obtain ⟨zb, hzb⟩ : ∃ zb, zb = wr.heap.size := ⟨_, rfl⟩
        rw [← hzb] at bc ⊢
        clear hzb hba a0 a1 a2 a3 a4 a5 a6 a7 a8 hbb
        generalize wr.alloc (.cells #[.string x.p, .int .i64 x.b, .bool x.m, .bool x.t, .int .i64 x.k, .int .i64 x.o, .int .i64 x.s, .int .i64 x.l, .int .i64 x.v] 26) = w3 at *
        have hgq : ∀ W, (binOp .neq 4 (.bool R) (.bool R)).run Try.prog W = .ok (.bool false) W := fun W => by cases R <;> rfl
        go_wp2_with fail
        refine wp_region_b 5 (by kernel_rfl) (by kernel_rfl) ?_
        simp only [List.take_succ_cons, List.take_zero, List.drop_succ_cons, List.drop_zero]
        refine lb_val (by kernel_rfl) ⟨_, (by (intro w' hC; (obtain ⟨q0, q1, q2, q3, q4, q5, q6, q7, q8⟩ := cells9 (bc.below hC)); clear hC; (try go_simp); (try with_reducible rfl); done)), _, (by (simp only [Act.put, List.setIfInBounds_toArray, List.set_cons_zero, List.set_cons_succ]; rfl)), ?_⟩
        refine lb_call (by kernel_rfl) (fun w' hC => HM1.out w') (by (intro w'; go_simp; done)) ⟨_, (by (simp only [Act.put, List.setIfInBounds_toArray, List.set_cons_zero, List.set_cons_succ]; rfl)), ?_⟩
        refine lb_val (by kernel_rfl) ⟨_, (by (intro w' hC; (obtain ⟨q0, q1, q2, q3, q4, q5, q6, q7, q8⟩ := cells9 (bc.below hC)); clear hC; (try go_simp); (try with_reducible rfl); done)), _, (by (simp only [Act.put, List.setIfInBounds_toArray, List.set_cons_zero, List.set_cons_succ]; rfl)), ?_⟩
        refine lb_call (by kernel_rfl) (fun w' hC => HM2.out w') (by (intro w'; go_simp; done)) ⟨_, (by (simp only [Act.put, List.setIfInBounds_toArray, List.set_cons_zero, List.set_cons_succ]; rfl)), ?_⟩
        refine lb_val (by kernel_rfl) ⟨_, (by (intro w' hC; clear hC; (try go_simp); (try with_reducible rfl); done)), _, (by (simp only [Act.put, List.setIfInBounds_toArray, List.set_cons_zero, List.set_cons_succ]; rfl)), ?_⟩
        refine .nil ?_
        intro w4 hb4
        have hr4 := hr3.trans (hb4.mono hr3.size)
        clear bc HM1 HM2 hr3 hb4
        go_wp2_with fail
        go_roundw
        case rel => exact ⟨i + 1, hlt, by go_num, hr4⟩
        case measure => simp [intOf]; omega
      · have HP1 := Lib.hid (orderPlan_any 1000 sorts1000 (by decide) A c l _ wr (HH.out.rd.below hb) (fun x hx => HH.out.p x hx) (by omega))
        go_wp2_with fail
        refine HP1.out.mono ?_
        rintro e w2 ⟨A2, c2, rfl, hr2, hb2⟩
        have hw2 := hb.trans (hb2.mono hb.size)
        have HP2 := Lib.hid (orderPlanR_any A c l _ w2 (HH.out.below hw2) HPT.out (by omega))
        have HR2 := Lib.hid hr2
        clear hr2 HP1
        go_wp2_with fail
        refine HP2.out.mono ?_
        rintro e w3 ⟨A3, c3, rfl, hr3, hb3⟩
        have hw3 := hw2.trans (hb3.mono hw2.size)
        have hpl := planS_len l
        have HPM : Hid (∀ x ∈ planS l, x.p.size ≤ 140737488355328) := Lib.hid (fun x hx => HH.out.p x (planS_mem hx))
        obtain ⟨PP, hPP⟩ : ∃ PP, PP = planS l := ⟨_, rfl⟩
        rw [← hPP] at hr3 HR2 hpl HPM ⊢
        have HSM := Lib.hid (sameR_any A2 A3 c2 c3 PP PP _ _ w3 ⟨(HR2.out.below hb3).rd, HPM.out, by omega⟩ ⟨hr3.rd, HPM.out, by omega⟩)
        rw [(sameCs_iff PP PP).2 rfl] at HSM
        clear hr3 HR2 HP2 hPP
        go_wp2_with fail
        refine HSM.out.mono ?_
        rintro e w4 ⟨rfl, hb4⟩
        have hw4 := hw3.trans (hb4.mono hw3.size)
        go_wp2_with fail
        refine (lives28_any _).mono ?_
        rintro e wl ⟨rfl, hbl⟩
        have hfin := hw4.trans (hbl.mono hw4.size)
        go_wp2_with fail
        go_ret
        exact ⟨rfl, hfin⟩

end Go.Proofs.Ytkeledbgmpienaa

/- Arguments opened: strings. -/
namespace Go.Proofs.Ytkeledbgmpienaa
open Go.RowKit Go.WideShapes Go.ChangeShapes Go.ChangeAt Go.ChangeMaps

section
variable {H : Type} {enc : TypeId × Value → H} {w : World} {spare : Nat → Bool} {held : Bool}
set_option maxRecDepth 100000 in
/-- a string -/
theorem open_str {r : Reach} {b0 : Nat} {v : Value} {d : DataW H} {p : List MemPlace} (hv : Value.okWide Try.prog w r b0 9 v) (h : DataW.Trod enc Try.prog w 0 spare held 9 v d p) (hw : Within 9 (d, p)) :
    ∃ s : ByteArray, v = .string s ∧ s.size ≤ 140737488355328 := by
  obtain ⟨s, rfl, hd, _, _⟩ := open_string Try.underlying9 hv h
  refine ⟨s, rfl, ?_⟩
  have h1 := hw s.data.toList.length (by rw [hd]; simp [DataW.weights])
  have h2 := reachBytes_lt
  have h3 : s.data.toList.length = s.size := tl_len s
  omega
end

end Go.Proofs.Ytkeledbgmpienaa

/- api.Change: as an argument, in slices. -/
namespace Go.Proofs.Ytkeledbgmpienaa
open Go.RowKit Go.WideShapes Go.ChangeShapes Go.ChangeAt Go.ChangeMaps Go.Deep Go.Joins

section
variable {H : Type} {enc : TypeId × Value → H} {w : World} {spare : Nat → Bool} {held : Bool}
theorem list9c {α : Type} {l : List α} (h : l.length = 9) : ∃ a0 a1 a2 a3 a4 a5 a6 a7 a8, l = [a0, a1, a2, a3, a4, a5, a6, a7, a8] := by
  match l, h with
  | [a0, a1, a2, a3, a4, a5, a6, a7, a8], _ => exact ⟨_, _, _, _, _, _, _, _, _, rfl⟩
theorem str_within {b : List UInt8} {p : List MemPlace} (hw : Within 9 ((DataW.lit (Lit.string b) : DataW H), p)) : b.length ≤ 140737488355328 := by
  have h1 := hw b.length (by simp [DataW.weights])
  have h2 := reachBytes_lt
  omega
set_option maxRecDepth 100000 in
theorem open_chg {n : Nat} {cs : List Value} {x : DataW H × List MemPlace} (h : DataW.trod enc Try.prog w 0 spare held n 26 cs = some x) (hw : Within 26 x) :
    ∃ o : CV, cs = o.cells ∧ o.p.size ≤ 140737488355328 := by
  obtain ⟨ys, n', hcl, hyl, hf⟩ := open_st Try.underlying26 (by kernel_rfl) h (by kernel_rfl) hw
  obtain ⟨a0, a1, a2, a3, a4, a5, a6, a7, a8, rfl⟩ := list9c hcl
  obtain ⟨y0, y1, y2, y3, y4, y5, y6, y7, y8, rfl⟩ := list9c hyl
  obtain ⟨f0, w0⟩ := hf 0 _ _ _ rfl rfl rfl
  obtain ⟨f1, _⟩ := hf 1 _ _ _ rfl rfl rfl
  obtain ⟨f2, _⟩ := hf 2 _ _ _ rfl rfl rfl
  obtain ⟨f3, _⟩ := hf 3 _ _ _ rfl rfl rfl
  obtain ⟨f4, _⟩ := hf 4 _ _ _ rfl rfl rfl
  obtain ⟨f5, _⟩ := hf 5 _ _ _ rfl rfl rfl
  obtain ⟨f6, _⟩ := hf 6 _ _ _ rfl rfl rfl
  obtain ⟨f7, _⟩ := hf 7 _ _ _ rfl rfl rfl
  obtain ⟨f8, _⟩ := hf 8 _ _ _ rfl rfl rfl
  obtain ⟨p, e0, hx0, _⟩ := DataW.trod_string Try.underlying9 f0
  obtain rfl := List.singleton_inj.1 e0
  obtain ⟨v1, e1, _, _⟩ := DataW.trod_int Try.underlying3 f1
  obtain rfl := List.singleton_inj.1 e1
  obtain ⟨v2, e2, _⟩ := DataW.trod_bool Try.underlying4 f2
  obtain rfl := List.singleton_inj.1 e2
  obtain ⟨v3, e3, _⟩ := DataW.trod_bool Try.underlying4 f3
  obtain rfl := List.singleton_inj.1 e3
  obtain ⟨v4, e4, _, _⟩ := DataW.trod_int Try.underlying3 f4
  obtain rfl := List.singleton_inj.1 e4
  obtain ⟨v5, e5, _, _⟩ := DataW.trod_int Try.underlying3 f5
  obtain rfl := List.singleton_inj.1 e5
  obtain ⟨v6, e6, _, _⟩ := DataW.trod_int Try.underlying3 f6
  obtain rfl := List.singleton_inj.1 e6
  obtain ⟨v7, e7, _, _⟩ := DataW.trod_int Try.underlying3 f7
  obtain rfl := List.singleton_inj.1 e7
  obtain ⟨v8, e8, _, _⟩ := DataW.trod_int Try.underlying3 f8
  obtain rfl := List.singleton_inj.1 e8
  refine ⟨⟨p, v1, v2, v3, v4, v5, v6, v7, v8⟩, rfl, ?_⟩
  rw [hx0] at w0
  have h1 := str_within w0
  have h2 : p.data.toList.length = p.size := tl_len p
  show p.size ≤ _
  omega
set_option maxRecDepth 100000 in
theorem open_chv {r : Reach} {b0 : Nat} {v : Value} {d : DataW H} {p : List MemPlace} (hv : Value.okWide Try.prog w r b0 26 v) (h : DataW.Trod enc Try.prog w 0 spare held 26 v d p) (hw : Within 26 (d, p)) :
    ∃ o : CV, v = o.val ∧ o.p.size ≤ 140737488355328 := by
  obtain ⟨cs, rfl, hsz⟩ := okWide_struct Try.underlying26 hv
  obtain ⟨l⟩ := cs
  obtain ⟨n, hn⟩ := h
  obtain ⟨o, e, ho⟩ := open_chg (cs := l) hn hw
  subst e
  exact ⟨o, rfl, ho⟩
set_option maxRecDepth 100000 in
theorem open_chs {n : Nat} {v : Value} {x : DataW H × List MemPlace} (h : DataW.trod enc Try.prog w 0 spare held n 22 [v] = some x) (hw : Within 22 x) :
    ∃ (A : Option Addr) (c : Nat) (l : List CV), v = .slice A l.length c ∧ Chs w (fun b => b < w.heap.size) A l := by
  obtain ⟨A, c, l, rfl, _, _, h3, h4, h5⟩ := open_sl (w := w) (enc := enc) (spare := spare) (held := held) CV.cells (fun o => o.p.size ≤ 140737488355328) 9 72 (t := 22) (e := 26) Try.underlying22 (by kernel_rfl) (by kernel_rfl) (by omega) (fun n cs x hx hx2 => open_chg hx hx2) h hw
  refine ⟨A, c, l, rfl, h3, h4, ?_⟩
  have := reachBytes_lt
  omega
end
end Go.Proofs.Ytkeledbgmpienaa
