/- slices.stableCmpFunc, slices.SortStableFunc at changes, of any length up to 100000. -/
import Derived.Test.YtkeledbgmpienaaGreatA16

namespace Go.Proofs.YtkeledbgmpienaaGreat
open Go.RowKit Go.WideShapes Go.ChangeShapes Go.ChangeAt


set_option maxRecDepth 100000 in
set_option maxHeartbeats 4000000 in
theorem stable_any (A : Option Addr) (c base : Nat) (X : List CV) (w : World) (h : RowC w base A c X) (hp : ∀ x ∈ X, x.p.size ≤ 140737488355328) (hl : X.length ≤ 100000) :
    Calls Tryz.prog 57 #[.slice A X.length c, .int .i64 (X.length : Int), .func (.func 33) #[] #[]] w fun e w' => e = .returned (.tuple #[]) ∧ RowC w' base A c (sortC ltC X) ∧ Fr (fun g => ablk A = some g) w w' := by
  have HR := Lib.hid h
  have HP := Lib.hid hp
  obtain ⟨N, hN⟩ : ∃ N, N = X.length := ⟨_, rfl⟩
  have HN := Lib.hid hN
  rw [← hN] at hl ⊢
  have hRI : Hid (∀ Y, SamF ltC X Y → ∀ W, RowC W base A c Y → ∀ a b, a ≤ b → b ≤ N → Calls Tryz.prog 69 #[.slice A N c, .int .i64 (a : Int), .int .i64 (b : Int), .func (.func 33) #[] #[]] W fun e w' => e = .returned (.tuple #[]) ∧ RowC w' base A c (Y.take a ++ sortC ltC ((Y.drop a).take (b - a)) ++ Y.drop b) ∧ Fr (fun g => ablk A = some g) W w') := Lib.hid (fun Y hY W hW a b hab hb => by
    have e : N = Y.length := by rw [hY.len]; exact hN
    have := insSort_any A c a b base Y W hW hab (by omega) (fun x hx => hp x (hY.mem ordC hx)) (by omega)
    rw [← e] at this
    exact this)
  have hRS : Hid (∀ Y, SamF ltC X Y → ∀ W, RowC W base A c Y → ∀ a s t b, a + s + t = b → b ≤ N → 0 < s → 0 < t → SegS ltC Y a (a + s) → SegS ltC Y (a + s) b → Calls Tryz.prog 70 #[.slice A N c, .int .i64 (a : Int), .int .i64 ((a + s : Nat) : Int), .int .i64 (b : Int), .func (.func 33) #[] #[]] W fun e w' => e = .returned (.tuple #[]) ∧ RowC w' base A c (Y.take a ++ sortC ltC ((Y.drop a).take (s + t)) ++ Y.drop b) ∧ Fr (fun g => ablk A = some g) W w') := Lib.hid (fun Y hY W hW a s t b hb hbN hs ht h1 h2 => by
    have e : N = Y.length := by rw [hY.len]; exact hN
    have l1 : (Y.take a).length = a := by rw [List.length_take]; omega
    have l2 : ((Y.drop a).take s).length = s := by rw [List.length_take, List.length_drop]; omega
    have l3 : ((Y.drop (a + s)).take t).length = t := by rw [List.length_take, List.length_drop]; omega
    have hc := cut4 Y a s t
    rw [hb] at hc
    have hW2 := hW
    rw [hc] at hW2
    have h1' := h1
    rw [hc, List.append_assoc (Y.take a ++ (Y.drop a).take s)] at h1'
    have h2' := h2
    rw [hc] at h2'
    have := symMerge_any A c N base (by omega) (b - a) a (a + s) b (Y.take a) ((Y.drop a).take s) ((Y.drop (a + s)).take t) (Y.drop b) W (by omega) hW2 (by rw [← hc]; exact e) l1 (by omega) (by omega) (by omega) (by omega) (h1'.mid l1 (by omega)) (h2'.mid (by rw [List.length_append]; omega) (by omega)) (fun z hz => hp z (hY.mem ordC (by
      rw [hc]
      simp only [List.mem_append] at hz ⊢
      rcases hz with hz | hz
      · exact .inl (.inl (.inr hz))
      · exact .inl (.inr hz))))
    have e2 : (Y.drop a).take s ++ (Y.drop (a + s)).take t = (Y.drop a).take (s + t) := by rw [List.take_add, List.drop_drop]
    rw [e2] at this
    exact this)
  have HCUT : Hid (∀ (Y : List CV) (a b : Nat), a ≤ b → Y = Y.take a ++ (Y.drop a).take (b - a) ++ Y.drop b) := Lib.hid (fun Y a b hab => by
    have := cut4 Y a (b - a) 0
    rw [List.take_zero, List.append_nil, Nat.add_zero, show a + (b - a) = b by omega] at this
    exact this)
  have hlen : Hid (∀ Y, SamF ltC X Y → Y.length = N) := Lib.hid (fun Y hY => by rw [hY.len]; exact hN.symm)
  clear h hp hN
  go_enter Tryz.func57, Tryz.ntmps57
  go_wp2_with fail
  go_loopw [7, 8] (fun av bv wr => ∃ (a q : Nat) (Y : List CV), av = .int .i64 (a : Int) ∧ bv = .int .i64 ((a + 20 : Nat) : Int) ∧ a ≤ N ∧ Hid (a = q * 20) ∧ Hid (SamF ltC X Y) ∧ Hid (DoneTo ltC 20 Y a) ∧ RowC wr base A c Y ∧ Fr (fun g => ablk A = some g) w wr) (fun av _ _ => N - (intOf av).toNat)
  case atStart => exact ⟨0, 0, X, rfl, rfl, Nat.zero_le _, Lib.hid rfl, Lib.hid (SamF.refl X), Lib.hid (DoneTo.zero (by decide)), HR.out, Fr.refl _ _⟩
  case round =>
    obtain ⟨a, q, Y, rfl, rfl, haN, HA, HS, HD, hr, hf⟩ := hrel
    obtain ⟨b, hb⟩ : ∃ b, b = a + 20 := ⟨_, rfl⟩
    have HB := Lib.hid hb
    rw [← hb]
    have hYN := hlen.out Y HS.out
    by_cases hlt : b ≤ N
    · have HI := Lib.hid (hRI.out Y HS.out wr hr a b (by omega) hlt)
      have hc := HCUT.out Y a b (by omega)
      have l1 : (Y.take a).length = a := by rw [List.length_take]; omega
      have l2 : ((Y.drop a).take (b - a)).length = 20 := by rw [List.length_take, List.length_drop]; omega
      obtain ⟨Y2, hY2⟩ : ∃ Y2, Y2 = Y.take a ++ sortC ltC ((Y.drop a).take (b - a)) ++ Y.drop b := ⟨_, rfl⟩
      rw [← hY2] at HI
      have HS2 : Hid (SamF ltC X Y2) := Lib.hid (by rw [hY2]; exact SamF.step ordC (by rw [← hc]; exact HS.out))
      have HD2 : Hid (DoneTo ltC 20 Y2 b) := Lib.hid (by rw [hY2, hb]; exact DoneTo.step (by decide) HA.out (by have := HD.out; rw [hc] at this; rw [hb] at this; exact this) l1 (by rw [← hb]; exact l2) (sortC_len _) (sortC_sorted ordC _))
      have HF := Lib.hid hf
      clear hr hf hc l1 l2 hY2 hb
      go_wp2_with fail
      refine HI.out.mono ?_
      rintro e w2 ⟨rfl, hr2, hf2⟩
      have HR2 := Lib.hid hr2
      have HF2 := Lib.hid (HF.out.trans hf2 (fun _ _ e => e))
      clear hr2 hf2 HI HF
      go_wp2_with fail
      go_roundw
      case rel => exact ⟨b, q + 1, Y2, rfl, by go_num, hlt, Lib.hid (by rw [Nat.succ_mul, ← HA.out]; exact HB.out), HS2, HD2, HR2.out, HF2.out⟩
      case measure => have := HB.out; simp [intOf]; omega
    · have HI := Lib.hid (hRI.out Y HS.out wr hr a N haN (Nat.le_refl _))
      have hc := HCUT.out Y a N haN
      have l1 : (Y.take a).length = a := by rw [List.length_take]; omega
      obtain ⟨Y2, hY2⟩ : ∃ Y2, Y2 = Y.take a ++ sortC ltC ((Y.drop a).take (N - a)) ++ Y.drop N := ⟨_, rfl⟩
      rw [← hY2] at HI
      have HS2 : Hid (SamF ltC X Y2) := Lib.hid (by rw [hY2]; exact SamF.step ordC (by rw [← hc]; exact HS.out))
      have HD2 : Hid (AllS ltC 20 Y2) := Lib.hid (by
        refine DoneTo.all (a := a) (q := q) (n := N) HA.out (hlen.out Y2 HS2.out) ?_ ?_
        · intro k hk
          refine (HD.out k hk).congr fun i h2 h3 => ?_
          rw [hY2]
          conv => rhs; rw [hc]
          exact out_get (sortC_len _) (.inl (by omega))
        · rw [hY2]
          exact SegS.of_mid l1 (by rw [sortC_len, List.length_take, List.length_drop]; omega) (sortC_sorted ordC _))
      have HF := Lib.hid hf
      clear hr hf hc l1 hY2 hb
      go_wp2_with fail
      refine HI.out.mono ?_
      rintro e w2 ⟨rfl, hr2, hf2⟩
      have HR2 := Lib.hid hr2
      have HF2 := Lib.hid (HF.out.trans hf2 (fun _ _ e => e))
      clear hr2 hf2 HI HF HA HS HD HB hYN
      go_wp2_with fail
      go_loopw [6, 7, 8, 9] (fun nv _ _ _ wr => ∃ (s : Nat) (Y : List CV), nv = .int .i64 (s : Int) ∧ 0 < s ∧ s ≤ 400000 ∧ Hid (SamF ltC X Y) ∧ Hid (AllS ltC s Y) ∧ RowC wr base A c Y ∧ Fr (fun g => ablk A = some g) w wr) (fun nv _ _ _ _ => N - (intOf nv).toNat)
      case atStart => exact ⟨20, Y2, rfl, by decide, by decide, HS2, HD2, HR2.out, HF2.out⟩
      case round =>
        clear HS2 HD2 HR2 HF2
        obtain ⟨s, Y, rfl, hs, hs4, HS, HD, hr, hf⟩ := hrel
        by_cases hlt : s < N
        · have HR3 := Lib.hid hr
          have HF3 := Lib.hid hf
          clear hr hf
          obtain ⟨s2, hs2⟩ : ∃ s2, s2 = 2 * s := ⟨_, rfl⟩
          have hws : IntKind.i64.wrap (2 * (s : Int)) = (s2 : Int) := by rw [IntKind.wrap_i64]; omega
          have hws2 : IntKind.i64.wrap ((s : Int) * 2) = (s2 : Int) := by rw [IntKind.wrap_i64]; omega
          have HS2E := Lib.hid hs2
          have hs2p : 0 < s2 ∧ s2 ≤ 200000 := by omega
          obtain ⟨hs2p, hs2u⟩ := hs2p
          clear hs2
          go_wp2_with fail
          go_loopw [7, 8] (fun av bv wr => ∃ (a q : Nat) (Y : List CV), av = .int .i64 (a : Int) ∧ bv = .int .i64 ((a + s2 : Nat) : Int) ∧ a ≤ N ∧ Hid (a = q * s2) ∧ Hid (SamF ltC X Y) ∧ Hid (DoneTo ltC s2 Y a) ∧ Hid (RestFrom ltC s Y a) ∧ RowC wr base A c Y ∧ Fr (fun g => ablk A = some g) w wr) (fun av _ _ => N - (intOf av).toNat)
          case atStart => exact ⟨0, 0, Y, rfl, by simp, Nat.zero_le _, Lib.hid (by simp), HS, Lib.hid (DoneTo.zero hs2p), Lib.hid HD.out.rest, HR3.out, HF3.out⟩
          case round =>
            clear HR3 HF3 HS HD
            obtain ⟨a, q, Y, rfl, rfl, haN, HA, HS, HD, HT, hr, hf⟩ := hrel
            obtain ⟨b, hb⟩ : ∃ b, b = a + s2 := ⟨_, rfl⟩
            obtain ⟨m, hm⟩ : ∃ m, m = a + s := ⟨_, rfl⟩
            have HB := Lib.hid hb
            have HM := Lib.hid hm
            have hwm : IntKind.i64.wrap ((a : Int) + (s : Int)) = (m : Int) := by rw [IntKind.wrap_i64]; omega
            rw [← hb]
            have hYN := hlen.out Y HS.out
            have HA2 : Hid (a = q * (2 * s)) := Lib.hid (by rw [← HS2E.out]; exact HA.out)
            have hsg1 := HT.out.one HA2.out
            have hsg2 := HT.out.two HA2.out
            have l1 : (Y.take a).length = a := by rw [List.length_take]; omega
            by_cases hlt2 : b ≤ N
            · have hwb : IntKind.i64.wrap ((b : Int) + (s2 : Int)) = ((b + s2 : Nat) : Int) := by rw [IntKind.wrap_i64]; omega
              have HI := Lib.hid (hRS.out Y HS.out wr hr a s s b (by rw [hb, HS2E.out]; omega) hlt2 hs hs hsg1 (by rw [hb, HS2E.out, Nat.two_mul, ← Nat.add_assoc]; exact hsg2))
              have hc := HCUT.out Y a b (by omega)
              rw [← hm, show s + s = b - a by rw [hb, HS2E.out]; omega] at HI
              have l2 : ((Y.drop a).take (b - a)).length = s2 := by rw [List.length_take, List.length_drop]; omega
              obtain ⟨Y2, hY2⟩ : ∃ Y2, Y2 = Y.take a ++ sortC ltC ((Y.drop a).take (b - a)) ++ Y.drop b := ⟨_, rfl⟩
              rw [← hY2] at HI
              have HS2 : Hid (SamF ltC X Y2) := Lib.hid (by rw [hY2]; exact SamF.step ordC (by rw [← hc]; exact HS.out))
              have HD2 : Hid (DoneTo ltC s2 Y2 b) := Lib.hid (by
                have hd := HD.out
                rw [hc] at hd
                have := hd.step hs2p HA.out l1 l2 (sortC_len _) (sortC_sorted ordC _)
                rw [hY2]
                rw [← hb] at this
                exact this)
              have HT2 : Hid (RestFrom ltC s Y2 b) := Lib.hid (by
                have hd := HT.out
                rw [hc] at hd
                have := hd.step (M' := sortC ltC ((Y.drop a).take (b - a))) l1 l2 (sortC_len _)
                rw [hY2]
                rw [← hb] at this
                exact this)
              have HF := Lib.hid hf
              clear hr hf hc l1 l2 hY2 hb hm hsg1 hsg2
              go_wp2_with fail
              refine HI.out.mono ?_
              rintro e w2 ⟨rfl, hr2, hf2⟩
              have HR2 := Lib.hid hr2
              have HF2 := Lib.hid (HF.out.trans hf2 (fun _ _ e => e))
              clear hr2 hf2 HI HF
              go_wp2_with fail
              go_roundw
              case rel => exact ⟨b, q + 1, Y2, rfl, rfl, hlt2, Lib.hid (by rw [Nat.succ_mul, ← HA.out]; exact HB.out), HS2, HD2, HT2, HR2.out, HF2.out⟩
              case measure => have := HB.out; simp [intOf]; omega
            · by_cases hmN : m < N
              · have HI := Lib.hid (hRS.out Y HS.out wr hr a s (N - m) N (by omega) (Nat.le_refl _) hs (by omega) hsg1 (fun i j x y g1 g2 g3 g4 g5 => hsg2 i j x y g1 g2 (by have := HS2E.out; omega) g4 g5))
                have hc := HCUT.out Y a N haN
                rw [← hm, show s + (N - m) = N - a by omega] at HI
                obtain ⟨Y2, hY2⟩ : ∃ Y2, Y2 = Y.take a ++ sortC ltC ((Y.drop a).take (N - a)) ++ Y.drop N := ⟨_, rfl⟩
                rw [← hY2] at HI
                have HS2 : Hid (SamF ltC X Y2) := Lib.hid (by rw [hY2]; exact SamF.step ordC (by rw [← hc]; exact HS.out))
                have HD2 : Hid (AllS ltC s2 Y2) := Lib.hid (by
                  refine DoneTo.all (a := a) (q := q) (n := N) HA.out (hlen.out Y2 HS2.out) ?_ ?_
                  · intro k hk
                    refine (HD.out k hk).congr fun i h2 h3 => ?_
                    rw [hY2]
                    conv => rhs; rw [hc]
                    exact out_get (sortC_len _) (.inl (by omega))
                  · rw [hY2]
                    exact SegS.of_mid l1 (by rw [sortC_len, List.length_take, List.length_drop]; omega) (sortC_sorted ordC _))
                have HF := Lib.hid hf
                clear hr hf hc l1 hY2 hb hm hsg1 hsg2
                go_wp2_with fail
                refine HI.out.mono ?_
                rintro e w2 ⟨rfl, hr2, hf2⟩
                have HR2 := Lib.hid hr2
                have HF2 := Lib.hid (HF.out.trans hf2 (fun _ _ e => e))
                clear hr2 hf2 HI HF
                go_wp2_with fail
                go_roundw
                case rel => exact ⟨s2, Y2, rfl, hs2p, by omega, HS2, HD2, HR2.out, HF2.out⟩
                case measure => have := HS2E.out; simp [intOf]; omega
              · have HD2 : Hid (AllS ltC s2 Y) := Lib.hid (by
                  refine DoneTo.all (a := a) (q := q) (n := N) HA.out hYN HD.out ?_
                  exact fun i j x y g1 g2 g3 g4 g5 => hsg1 i j x y g1 g2 (by omega) g4 g5)
                have HR2 := Lib.hid hr
                have HF2 := Lib.hid hf
                clear hr hf l1 hb hm hsg1 hsg2
                go_wp2_with fail
                go_roundw
                case rel => exact ⟨s2, Y, rfl, hs2p, by omega, HS, HD2, HR2.out, HF2.out⟩
                case measure => have := HS2E.out; simp [intOf]; omega
        · have HRE : Hid (RowC wr base A c (sortC ltC X)) := Lib.hid (by
            rw [← HS.out.eq ordC (HD.out.whole (by rw [hlen.out Y HS.out]; omega))]; exact hr)
          have HFE := Lib.hid hf
          clear hr hf
          go_wp2_with fail
          go_end0
          exact ⟨rfl, HRE.out, HFE.out⟩
theorem sortsAll : SortsC 100000 := by
  intro A c base X w h hp hl
  have HS := Lib.hid (stable_any A c base X w h hp hl)
  clear h
  go_enter Tryz.func32, Tryz.ntmps32
  go_wp2_with fail
  refine HS.out.mono ?_
  rintro e w1 ⟨rfl, hr1, hf1⟩
  have HR1 := Lib.hid hr1
  clear hr1
  go_wp2_with fail
  go_end0
  exact ⟨rfl, HR1.out, hf1⟩

end Go.Proofs.YtkeledbgmpienaaGreat

/- tenderlaw28: lives. -/
namespace Go.Proofs.YtkeledbgmpienaaGreat
open Go.RowKit Go.WideShapes Go.ChangeShapes Go.ChangeAt Go.Maps

def lo1 : CV := ⟨⟨#[97]⟩, 0, true, false, 0, 0, 0, 0, 1⟩
def lo2 : CV := ⟨⟨#[97, 47, 98]⟩, 0, true, false, 0, 0, 0, 0, 1⟩
def lo3 : CV := ⟨⟨#[99]⟩, 0, true, false, 1, 0, 0, 0, 1⟩
theorem lo_plan : planS [lo1, lo2, lo3] = [lo2, lo1, lo3] := by kernel_rfl
theorem lo_rem : remB lo2 = true := by kernel_rfl
set_option maxRecDepth 100000 in
set_option maxHeartbeats 1000000 in
theorem lives28_any (w : World) : Calls Tryz.prog 5 #[] w fun e w' => e = .returned (.bool true) ∧ Below w.heap.size w w' := by
  have hcl : Hid (([lo1, lo2, lo3] : List CV).flatMap CV.cells = [.string ⟨#[97]⟩, .int .i64 0, .bool true, .bool false, .int .i64 0, .int .i64 0, .int .i64 0, .int .i64 0, .int .i64 1, .string ⟨#[97, 47, 98]⟩, .int .i64 0, .bool true, .bool false, .int .i64 0, .int .i64 0, .int .i64 0, .int .i64 0, .int .i64 1, .string ⟨#[99]⟩, .int .i64 0, .bool true, .bool false, .int .i64 1, .int .i64 0, .int .i64 0, .int .i64 0, .int .i64 1]) := rfl
  go_enter Tryz.func5, Tryz.ntmps5
  go_wp2_with fail
  refine (orderPlan_any 19 sorts19 (by decide) (some ⟨w.heap.size, 0, none⟩) 3 [lo1, lo2, lo3] (fun b => w.heap.size ≤ b) _ (Rd.lit (by rw [hcl.out]) rfl rfl) ?_ (by decide)).mono ?_
  · intro o ho
    simp only [List.mem_cons, List.not_mem_nil, or_false] at ho
    rcases ho with rfl | rfl | rfl <;> decide
  rintro e w1 ⟨A', c', rfl, hrd, hb⟩
  rw [lo_plan] at hrd ⊢
  have hb1 : Below w.heap.size w w1 := ((Below.refl _ _).alloc (Nat.le_refl _) _).trans (hb.mono (by simp))
  obtain ⟨b, off, rfl, _, hbb, q0⟩ := ch_at (i := 0) hrd.rd (by simp)
  obtain ⟨b', off', e', _, _, q1⟩ := ch_at (i := 1) hrd.rd (by simp)
  obtain ⟨rfl, rfl⟩ : b = b' ∧ off = off' := by simpa using e'
  obtain ⟨b', off', e'', _, _, q2⟩ := ch_at (i := 2) hrd.rd (by simp)
  obtain ⟨rfl, rfl⟩ : b = b' ∧ off = off' := by simpa using e''
  obtain ⟨a0, a1, a2, a3, a4, a5, a6, a7, a8⟩ := q0
  obtain ⟨b0, _, _, _, _, _, _, _, _⟩ := q1
  obtain ⟨c0, _, _, _, _, _, _, _, _⟩ := q2
  replace a0 : w1.cell? ⟨b, off, none⟩ = some (.string ⟨#[97, 47, 98]⟩) := a0
  replace a1 : w1.cell? ⟨b, off + 1, none⟩ = some (.int .i64 0) := a1
  replace a2 : w1.cell? ⟨b, off + 2, none⟩ = some (.bool true) := a2
  replace a3 : w1.cell? ⟨b, off + 3, none⟩ = some (.bool false) := a3
  replace a4 : w1.cell? ⟨b, off + 4, none⟩ = some (.int .i64 0) := a4
  replace a5 : w1.cell? ⟨b, off + 5, none⟩ = some (.int .i64 0) := a5
  replace a6 : w1.cell? ⟨b, off + 6, none⟩ = some (.int .i64 0) := a6
  replace a7 : w1.cell? ⟨b, off + 7, none⟩ = some (.int .i64 0) := a7
  replace a8 : w1.cell? ⟨b, off + 8, none⟩ = some (.int .i64 1) := a8
  replace b0 : w1.cell? ⟨b, off + 9, none⟩ = some (.string ⟨#[97]⟩) := b0
  replace c0 : w1.cell? ⟨b, off + 18, none⟩ = some (.string ⟨#[99]⟩) := c0
  have HR := Lib.hid (fun W => removes_any lo2 W)
  rw [lo_rem] at HR
  have hv2 : lo2.val = .agg #[.string ⟨#[97, 47, 98]⟩, .int .i64 0, .bool true, .bool false, .int .i64 0, .int .i64 0, .int .i64 0, .int .i64 0, .int .i64 1] := rfl
  rw [hv2] at HR
  clear hv2
  clear hrd hb e' e''
  go_wp2_with fail
  refine (HR.out _).mono ?_
  rintro e w2 ⟨rfl, hb2⟩
  go_wp2_with fail
  go_ret
  exact ⟨rfl, hb1.trans (hb2.mono hb1.size)⟩
end Go.Proofs.YtkeledbgmpienaaGreat
