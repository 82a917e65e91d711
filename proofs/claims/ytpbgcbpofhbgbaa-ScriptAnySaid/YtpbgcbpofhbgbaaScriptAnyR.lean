/- tenderref41.Any: the document's acts of any bytes. -/
import Derived.Test.YtpbgcbpofhbgbaaScriptAnyF
import Derived.Test.YtpbgcbpofhbgbaaScriptPush
namespace Go.Proofs.Ytpbgcbpofhbgbaa
open Go.RowKit

theorem nx_drop (l : List UInt8) (i : Nat) : (nx (l.drop i)).2 = l.drop (i + 1) := by
  by_cases h : i < l.length
  · rw [List.drop_eq_getElem_cons h]; rfl
  · rw [List.drop_of_length_le (by omega), List.drop_of_length_le (by omega)]; rfl
theorem at_any (A : Option Addr) (c : Nat) (l : List UInt8) (i : Nat) (Z : Nat → Prop) (w : World) (h : By w Z A l) (hl : l.length ≤ 140737488355328) :
    Calls Try.prog 59 #[.slice A l.length c, .int .i64 (i : Int)] w fun e w' => e = .returned (.int .i64 ((nx (l.drop i)).1 : Int)) ∧ w = w' := by
  by_cases hi : i < l.length
  · obtain ⟨b, off, rfl, _, _, hc⟩ := h.atj (j := i) (u := bv l[i]) (by rw [List.getElem?_map, List.getElem?_eq_getElem hi]; rfl)
    have hc1 : w.cell? ⟨b, off + i, none⟩ = some (.int .u8 (l[i].toNat : Int)) := hc
    have HE : Hid ((nx (l.drop i)).1 = l[i].toNat) := by show _ = _; rw [List.drop_eq_getElem_cons hi]; rfl
    have hx := l[i].toNat_lt
    clear hc
    generalize l[i].toNat = x at *
    go_enter Try.func59, Try.ntmps59
    go_wp2_with fail
    go_ret
    exact ⟨by rw [HE.out]; rfl, rfl⟩
  · have HE : Hid ((nx (l.drop i)).1 = 0) := by show _ = _; rw [List.drop_of_length_le (by omega)]; rfl
    go_enter Try.func59, Try.ntmps59
    go_wp2_with fail
    go_ret
    exact ⟨by rw [HE.out]; rfl, rfl⟩

/-- what the rounds of Any keep -/
def arRel (w : World) (l : List UInt8) (ov iv : Value) (wr : World) : Prop :=
  ∃ (s : List AV) (A : Option Addr) (c i : Nat), ov = .slice A s.length c ∧ iv = .int .i64 (i : Int) ∧ i ≤ l.length + 2 ∧ ActRow wr w.heap.size (fun b => w.heap.size ≤ b) A c s ∧
    Hid (anyF l.length l = s.map AV.a ++ anyF (l.length - s.length) (l.drop i)) ∧ s.length + (l.drop i).length ≤ l.length ∧ Below w.heap.size w wr
theorem ar_step {l : List UInt8} {s : List AV} {v : AV} {i k : Nat} (hF : anyF l.length l = s.map AV.a ++ anyF (l.length - s.length) (l.drop i)) (hi : i < l.length) (hs : s.length + (l.drop i).length ≤ l.length)
    (hv : v.a = (oneS l[i].toNat (l.drop (i + 1))).1) (hk : (oneS l[i].toNat (l.drop (i + 1))).2 = l.drop k) (hik : i < k) :
    anyF l.length l = (s ++ [v]).map AV.a ++ anyF (l.length - (s ++ [v]).length) (l.drop k) ∧ (s ++ [v]).length + (l.drop k).length ≤ l.length := by
  rw [List.drop_eq_getElem_cons hi] at hF hs
  simp only [List.length_cons, List.length_drop] at hs
  constructor
  · rw [hF, List.map_append, List.append_assoc, List.length_append]
    rw [show l.length - s.length = (l.length - (s.length + [v].length)) + 1 by simp; omega, anyF, List.map_cons, List.map_nil, hv, hk]
    rfl
  · simp; omega

set_option maxRecDepth 100000 in
set_option maxHeartbeats 8000000 in
theorem anyR_any (x : BV) (w : World) (h : x.ok w (fun b => b < w.heap.size)) (hl : x.l.length ≤ 2000) :
    Calls Try.prog 29 #[x.v] w fun e w' => ∃ (A : Option Addr) (c : Nat) (s : List AV), e = .returned (.slice A s.length c) ∧ Hid (s.map AV.a = anyF x.l.length x.l) ∧ Acts w' (fun b => w.heap.size ≤ b) A s ∧ s.length ≤ x.l.length ∧ Below w.heap.size w w' := by
  obtain ⟨xA, xc, l⟩ := x
  obtain ⟨hy, hlc, hcm⟩ := h
  dsimp only at *
  unfold BV.v
  dsimp only
  obtain ⟨i0, hi0, hz0, hz1, hz2⟩ := info_parts act_info
  go_enter Try.func29, Try.ntmps29
  go_wp2_with fail
  go_loopw [3, 4] (fun ov iv wr => arRel w l ov iv wr) (fun ov _ _ => l.length - lenOfV ov)
  case atStart => exact ⟨[], none, 0, 0, rfl, rfl, Nat.zero_le _, ActRow.none_ _ _ _, by show _ = _; simp, by simp, Below.refl _ _⟩
  case round =>
    obtain ⟨s, A, c, i, rfl, rfl, hi, hrow, hF, hlen, hb⟩ := hrel
    have hsz := hb.size
    by_cases hlt : i < l.length
    · obtain ⟨b, off, rfl, _, hbl, hc⟩ := (hy.below hb).atj (j := i) (u := bv l[i]) (by rw [List.getElem?_map, List.getElem?_eq_getElem hlt]; rfl)
      have hc1 : wr.cell? ⟨b, off + i, none⟩ = some (.int .u8 (l[i].toNat : Int)) := hc
      clear hc
      have hx := l[i].toNat_lt
      have HS := Lib.hid (fun v k => ar_step (v := v) (k := k) hF.out hlt hlen)
      have HU : Hid (∀ W, Below wr.heap.size wr W → Calls Try.prog 59 #[.slice (some ⟨b, off, none⟩) l.length xc, .int .i64 ((i : Int) + 1)] W fun e w' => e = .returned (.int .i64 ((nx (l.drop (i + 1))).1 : Int)) ∧ W = w') := fun W hW => at_any _ xc l (i + 1) _ W ((hy.below hb).below hW) (by omega)
      have HV : Hid (∀ W, Below wr.heap.size wr W → Calls Try.prog 59 #[.slice (some ⟨b, off, none⟩) l.length xc, .int .i64 ((i : Int) + 2)] W fun e w' => e = .returned (.int .i64 ((nx (l.drop (i + 1 + 1))).1 : Int)) ∧ W = w') := fun W hW => at_any _ xc l (i + 2) _ W ((hy.below hb).below hW) (by omega)
      have hd1 := nx_drop l (i + 1)
      have hd2 := nx_drop l (i + 1 + 1)
      have hdl : s.length < l.length := by rw [List.length_drop] at hlen; omega
      have hu := nx_lt (l.drop (i + 1))
      have hv := nx_lt (l.drop (i + 1 + 1))
      have hz : (⟨#[]⟩ : ByteArray).size = 0 := rfl
      have hAl := hrow.row.lt
      generalize l[i].toNat = x at *
      clear hF hlen hy
      rcases (show x % 16 < 10 ∨ x % 16 < 12 ∧ 10 ≤ x % 16 ∨ x % 16 = 12 ∨ x % 16 = 13 ∨ x % 16 = 14 ∨ x % 16 = 15 by omega) with h10 | h10 | h10 | h10 | h10 | h10
      · by_cases h128 : 128 ≤ x
        · have q10 : decide ((x : Int) % 16 < 10) = true := by simp; omega
          have q12 : decide ((x : Int) % 16 < 12) = true := by simp; omega
          have e12 : ((x : Int) % 16 == 12) = false := by simp; omega
          have e13 : ((x : Int) % 16 == 13) = false := by simp; omega
          have e14 : ((x : Int) % 16 == 14) = false := by simp; omega
          have q128 : decide ((x : Int) ≥ 128) = true := by simp; omega
          have hO : oneS x (l.drop (i + 1)) = ({ k := 1 + (x : Int) % 16 / 5, n := (x : Int) - 128 }, l.drop (i + 1)) := by unfold oneS; rw [if_neg (by omega), if_neg (by omega), if_neg (by omega), if_neg (by omega), if_neg (by omega), if_pos h128]; (try rw [hd1]); (try rw [hd2])
          have HSk := Lib.hid (fun (a : AV) (h : a.a = _) => HS.out a _ (by rw [hO]; exact h) (by rw [hO]) (by omega))
          clear hO HS hd1 hd2
          generalize (nx (l.drop (i + 1))).1 = u at *
          generalize (nx (l.drop (i + 1 + 1))).1 = v at *
          have bV : Below wr.heap.size wr (wr.alloc (.cells #[.int .i64 (1 + (x : Int) % 16 / 5), .int .i64 0, .int .i64 ((x : Int) - 128), .int .i64 0, .int .u32 0, .int .i64 0, .string ⟨#[]⟩, .string ⟨#[]⟩, .slice none 0 0, .slice none 0 0, .slice none 0 0] 57)) := (by repeat (first | exact Below.refl _ _ | refine Below.alloc ?_ (by simp) _ | refine Below.setCell ?_ (by simp) _ | refine Below.drew ?_))
          have sV : (wr.alloc (.cells #[.int .i64 (1 + (x : Int) % 16 / 5), .int .i64 0, .int .i64 ((x : Int) - 128), .int .i64 0, .int .u32 0, .int .i64 0, .string ⟨#[]⟩, .string ⟨#[]⟩, .slice none 0 0, .slice none 0 0, .slice none 0 0] 57)).heap.size = wr.heap.size + 1 := by simp
          have rV := hrow.below bV
          generalize hVV : (wr.alloc (.cells #[.int .i64 (1 + (x : Int) % 16 / 5), .int .i64 0, .int .i64 ((x : Int) - 128), .int .i64 0, .int .u32 0, .int .i64 0, .string ⟨#[]⟩, .string ⟨#[]⟩, .slice none 0 0, .slice none 0 0, .slice none 0 0] 57)) = VV at bV sV rV
          have HVV := Lib.hid hVV
          clear hVV
          go_wp2_with (first | (at_builtin; (rw [HVV.out]; refine wpList_append_row _ rfl (.tmp 162) (.tmp 164) 50 rfl w.heap.size 57 i0 _ 11 152 Try.underlying50 hi0 hz0 hz1 hz2 rfl (by omega) rfl (rV.row.alloc _) rfl (Rd.lit (xs := [.int .i64 (1 + (x : Int) % 16 / 5), .int .i64 0, .int .i64 ((x : Int) - 128), .int .i64 0, .int .u32 0, .int .i64 0, .string ⟨#[]⟩, .string ⟨#[]⟩, .slice none 0 0, .slice none 0 0, .slice none 0 0]) (n := 1) rfl rfl (by rw [sV])) (by simp [Value.oneCell']) (by simp only [maxLen]; omega) (by omega) (by rw [World.size_alloc, sV]; omega) ?_; intro A4 c4 w4 hrow4 hg4 hat4)) | (go_at_call 59; first | (with_reducible refine (HU.out _ (Below.refl _ _)).mono ?_; rintro e w2 ⟨rfl, rfl⟩) | (with_reducible refine (HV.out _ (Below.refl _ _)).mono ?_; rintro e w2 ⟨rfl, rfl⟩)) | (go_at_call 60; first | (with_reducible refine (HP.out _).mono ?_; rintro e w2 ⟨rfl, rfl⟩) | (with_reducible refine (HQ.out _).mono ?_; rintro e w2 ⟨rfl, rfl⟩)))
          have hp := rV.push (v := { a := { k := 1 + (x : Int) % 16 / 5, n := (x : Int) - 128 } }) ⟨Rd.nil, Rd.nil, Rd.nil, (by refine ⟨?_, ?_, ?_, ?_, ?_, ?_, ?_, ?_, ?_, ?_, ?_, ?_, ?_⟩ <;> (try simp [hz]) <;> (try omega))⟩ hrow4 hg4 hat4
          have hS := HSk.out { a := { k := 1 + (x : Int) % 16 / 5, n := (x : Int) - 128 } } rfl
          go_roundw
          case rel => exact ⟨s ++ [{ a := { k := 1 + (x : Int) % 16 / 5, n := (x : Int) - 128 } }], A4, c4, i + 1, by simp, by go_num, by omega, hp.1, Lib.hid hS.1, hS.2, (hb.trans (bV.mono hb.size)).trans (hp.2.below (by rw [sV]; omega) (fun k hk e => absurd (hAl k e).1 (by omega)))⟩
          case measure => simp [lenOfV]; omega
        · have q10 : decide ((x : Int) % 16 < 10) = true := by simp; omega
          have q12 : decide ((x : Int) % 16 < 12) = true := by simp; omega
          have e12 : ((x : Int) % 16 == 12) = false := by simp; omega
          have e13 : ((x : Int) % 16 == 13) = false := by simp; omega
          have e14 : ((x : Int) % 16 == 14) = false := by simp; omega
          have q128 : decide ((x : Int) ≥ 128) = false := by simp; omega
          have hO : oneS x (l.drop (i + 1)) = ({ k := 1 + (x : Int) % 16 / 5, n := 1400 }, l.drop (i + 1)) := by unfold oneS; rw [if_neg (by omega), if_neg (by omega), if_neg (by omega), if_neg (by omega), if_neg (by omega), if_neg h128]; (try rw [hd1]); (try rw [hd2])
          have HSk := Lib.hid (fun (a : AV) (h : a.a = _) => HS.out a _ (by rw [hO]; exact h) (by rw [hO]) (by omega))
          clear hO HS hd1 hd2
          generalize (nx (l.drop (i + 1))).1 = u at *
          generalize (nx (l.drop (i + 1 + 1))).1 = v at *
          have bV : Below wr.heap.size wr (wr.alloc (.cells #[.int .i64 (1 + (x : Int) % 16 / 5), .int .i64 0, .int .i64 1400, .int .i64 0, .int .u32 0, .int .i64 0, .string ⟨#[]⟩, .string ⟨#[]⟩, .slice none 0 0, .slice none 0 0, .slice none 0 0] 57)) := (by repeat (first | exact Below.refl _ _ | refine Below.alloc ?_ (by simp) _ | refine Below.setCell ?_ (by simp) _ | refine Below.drew ?_))
          have sV : (wr.alloc (.cells #[.int .i64 (1 + (x : Int) % 16 / 5), .int .i64 0, .int .i64 1400, .int .i64 0, .int .u32 0, .int .i64 0, .string ⟨#[]⟩, .string ⟨#[]⟩, .slice none 0 0, .slice none 0 0, .slice none 0 0] 57)).heap.size = wr.heap.size + 1 := by simp
          have rV := hrow.below bV
          generalize hVV : (wr.alloc (.cells #[.int .i64 (1 + (x : Int) % 16 / 5), .int .i64 0, .int .i64 1400, .int .i64 0, .int .u32 0, .int .i64 0, .string ⟨#[]⟩, .string ⟨#[]⟩, .slice none 0 0, .slice none 0 0, .slice none 0 0] 57)) = VV at bV sV rV
          have HVV := Lib.hid hVV
          clear hVV
          go_wp2_with (first | (at_builtin; (rw [HVV.out]; refine wpList_append_row _ rfl (.tmp 162) (.tmp 164) 50 rfl w.heap.size 57 i0 _ 11 152 Try.underlying50 hi0 hz0 hz1 hz2 rfl (by omega) rfl (rV.row.alloc _) rfl (Rd.lit (xs := [.int .i64 (1 + (x : Int) % 16 / 5), .int .i64 0, .int .i64 1400, .int .i64 0, .int .u32 0, .int .i64 0, .string ⟨#[]⟩, .string ⟨#[]⟩, .slice none 0 0, .slice none 0 0, .slice none 0 0]) (n := 1) rfl rfl (by rw [sV])) (by simp [Value.oneCell']) (by simp only [maxLen]; omega) (by omega) (by rw [World.size_alloc, sV]; omega) ?_; intro A4 c4 w4 hrow4 hg4 hat4)) | (go_at_call 59; first | (with_reducible refine (HU.out _ (Below.refl _ _)).mono ?_; rintro e w2 ⟨rfl, rfl⟩) | (with_reducible refine (HV.out _ (Below.refl _ _)).mono ?_; rintro e w2 ⟨rfl, rfl⟩)) | (go_at_call 60; first | (with_reducible refine (HP.out _).mono ?_; rintro e w2 ⟨rfl, rfl⟩) | (with_reducible refine (HQ.out _).mono ?_; rintro e w2 ⟨rfl, rfl⟩)))
          have hp := rV.push (v := { a := { k := 1 + (x : Int) % 16 / 5, n := 1400 } }) ⟨Rd.nil, Rd.nil, Rd.nil, (by refine ⟨?_, ?_, ?_, ?_, ?_, ?_, ?_, ?_, ?_, ?_, ?_, ?_, ?_⟩ <;> (try simp [hz]) <;> (try omega))⟩ hrow4 hg4 hat4
          have hS := HSk.out { a := { k := 1 + (x : Int) % 16 / 5, n := 1400 } } rfl
          go_roundw
          case rel => exact ⟨s ++ [{ a := { k := 1 + (x : Int) % 16 / 5, n := 1400 } }], A4, c4, i + 1, by simp, by go_num, by omega, hp.1, Lib.hid hS.1, hS.2, (hb.trans (bV.mono hb.size)).trans (hp.2.below (by rw [sV]; omega) (fun k hk e => absurd (hAl k e).1 (by omega)))⟩
          case measure => simp [lenOfV]; omega
      · have q10 : decide ((x : Int) % 16 < 10) = false := by simp; omega
        have q12 : decide ((x : Int) % 16 < 12) = true := by simp; omega
        have e12 : ((x : Int) % 16 == 12) = false := by simp; omega
        have e13 : ((x : Int) % 16 == 13) = false := by simp; omega
        have e14 : ((x : Int) % 16 == 14) = false := by simp; omega
        have hO : oneS x (l.drop (i + 1)) = ({ k := (x : Int) % 16 - 7, ek := 1 + ((nx (l.drop (i + 1))).1 : Int) % 5, p := pathV (nx (l.drop (i + 1 + 1))).1, t := pathV ((nx (l.drop (i + 1 + 1))).1 / 16), x := dataV (nx (l.drop (i + 1))).1 (nx (l.drop (i + 1 + 1))).1 }, l.drop (i + 1 + 1 + 1)) := by unfold oneS; rw [if_pos (by omega), hd1, hd2]
        have HSk := Lib.hid (fun (a : AV) (h : a.a = _) => HS.out a _ (by rw [hO]; exact h) (by rw [hO]) (by omega))
        clear hO HS hd1 hd2
        generalize (nx (l.drop (i + 1))).1 = u at *
        generalize (nx (l.drop (i + 1 + 1))).1 = v at *
        have hP1 := pathV_size v
        have hP2 := pathV_size (v / 16)
        unfold dataV at HSk
        have HP := Lib.hid (fun w => pathR_any v (by omega) w)
        have HQ : Hid (∀ w, Calls Try.prog 60 #[.int .i64 ((v : Int) / 16)] w fun e w' => e = .returned (.string (pathV (v / 16))) ∧ w = w') := by
          intro w
          have h := pathR_any (v / 16) (by omega) w
          rw [show ((v / 16 : Nat) : Int) = (v : Int) / 16 by omega] at h
          exact h
        generalize pathV v = P at *
        generalize pathV (v / 16) = Q at *
        have bZ := Blk.new wr 57 #[.int .i64 ((x : Int) % 16 - 7), .int .i64 0, .int .i64 0, .int .i64 0, .int .u32 0, .int .i64 (1 + (u : Int) % 5), .string P, .string Q, .slice none 0 0, .slice none 0 0, .slice none 0 0]
        have bV : Below wr.heap.size wr (wr.alloc (.cells #[.int .i64 ((x : Int) % 16 - 7), .int .i64 0, .int .i64 0, .int .i64 0, .int .u32 0, .int .i64 (1 + (u : Int) % 5), .string P, .string Q, .slice none 0 0, .slice none 0 0, .slice none 0 0] 57)) := (by repeat (first | exact Below.refl _ _ | refine Below.alloc ?_ (by simp) _ | refine Below.setCell ?_ (by simp) _ | refine Below.drew ?_))
        have hn : u / 8 < 32 := by omega
        go_wp2_with (first | (go_at_call 59; first | (with_reducible refine (HU.out _ (Below.refl _ _)).mono ?_; rintro e w2 ⟨rfl, rfl⟩) | (with_reducible refine (HV.out _ (Below.refl _ _)).mono ?_; rintro e w2 ⟨rfl, rfl⟩)) | (go_at_call 60; first | (with_reducible refine (HP.out _).mono ?_; rintro e w2 ⟨rfl, rfl⟩) | (with_reducible refine (HQ.out _).mono ?_; rintro e w2 ⟨rfl, rfl⟩)))
        obtain ⟨wp, rfl⟩ : ∃ wp : World, wp = wr := ⟨_, rfl⟩
        generalize wp.alloc (.cells #[.int .i64 ((x : Int) % 16 - 7), .int .i64 0, .int .i64 0, .int .i64 0, .int .u32 0, .int .i64 (1 + (u : Int) % 5), .string P, .string Q, .slice none 0 0, .slice none 0 0, .slice none 0 0] 57) = V0 at *
        go_loopw [9] (fun jv w5 => ∃ (j : Nat) (L : List UInt8) (AL : Option Addr) (cL : Nat), j ≤ u / 8 ∧ jv = .int .i64 (j : Int) ∧ Hid (L = dataI u v j) ∧ Blk w5 wp.heap.size 57 #[.int .i64 ((x : Int) % 16 - 7), .int .i64 0, .int .i64 0, .int .i64 0, .int .u32 0, .int .i64 (1 + (u : Int) % 5), .string P, .string Q, .slice AL L.length cL, .slice none 0 0, .slice none 0 0] ∧ OwB w5 wp.heap.size (.slice AL L.length cL) L ∧ Below wp.heap.size wp w5) (fun jv _ => u / 8 - (intOf jv).toNat)
        case atStart => exact ⟨0, [], none, 0, Nat.zero_le _, rfl, rfl, bZ, OwB.nil _ _, bV⟩
        case round =>
          obtain ⟨j, L, AL, cL, hj, rfl, hL, hx5, ho5, hb5⟩ := hrel
          obtain ⟨w5, rfl⟩ : ∃ w5 : World, w5 = wr := ⟨_, rfl⟩
          have hsz5 := hx5.lt
          by_cases hjl : j < u / 8
          · have c8 : w5.cell? ⟨wp.heap.size, 8, none⟩ = some (.slice AL L.length cL) := hx5.cell 8
            have f8 := hx5.frozen 8
            have hll : L.length = j := by rw [hL.out, dataI_len]
            have Hll := Lib.hid hll
            clear hll
            have w1 : ((j : Int) * (u : Int)) = ((j * u : Nat) : Int) := by simp
            have w0 : j * u ≤ 32 * 256 := Nat.mul_le_mul (by omega) (by omega)
            have hbv := bv_wrap (v + j * u)
            have hsu := Lib.hid (dataI_succ u v j)
            generalize hm : j * u = m at *
            have Hm := Lib.hid hm
            clear hm
            go_wp2_with (at_builtin; refine wpList_append_by rfl (.tmp 85) (.tmp 92) rfl (v := .slice AL L.length cL) rfl (ho5.alloc _) rfl (OwB.lit1 w5 (base := 0) (b := UInt8.ofNat (v + m)) (by rw [hbv]; rfl) (by omega)).rd (by have := Hll.out; simp; omega) (by simp; omega) ?_; intro L6 A6 c6 w6 hL6 hown6 hg6 hat6; have hx6 := (hx5.alloc _).grown hg6 (Blk.own_ne hx5 ho5 (by decide)); have c8n : w6.cell? ⟨wp.heap.size, 8, none⟩ = some (.slice AL L.length cL) := hx6.cell 8; have f8n := hx6.frozen 8)
            have fr6 := Fr.of_grown hg6 (S := fun k => wp.heap.size ≤ k) (fun k _ e => (ho5.lt k e).1)
            have hb6 := (hb5.alloc (by omega) _).trans (fr6.below (by simp; omega) (fun k hk e => by omega))
            have hne6 := Blk.own_ne hx6 hown6 (by decide)
            have hx7 := hx6.set_ 8 (.slice A6 L6.length c6)
            have fr7 : Fr (fun k => k = wp.heap.size) w6 (w6.setCell ⟨wp.heap.size, 8, none⟩ (.slice A6 L6.length c6)) := (Fr.refl (fun k => k = wp.heap.size) w6).setAt _ 8 rfl _
            go_roundw
            case rel => exact ⟨j + 1, L6, A6, c6, hjl, by go_num, by show _ = _; rw [hL6.out, hL.out, hsu.out], by simpa using hx7, hown6.fr fr7 (fun g hg e => hne6 (by rw [hg, e])), hb6.trans (fr7.below hb6.size (fun k hk e => by omega))⟩
            case measure => simp [intOf]; omega
          · have ej : j = u / 8 := by omega
            subst ej
            have hrow5 := hrow.below hb5
            have hLl : L.length ≤ 32 := by rw [hL.out, dataI_len]; omega
            have g0 : w5.cell? ⟨wp.heap.size, 0, none⟩ = some (.int .i64 ((x : Int) % 16 - 7)) := hx5.cell 0
            have g1 : w5.cell? ⟨wp.heap.size, 1, none⟩ = some (.int .i64 0) := hx5.cell 1
            have g2 : w5.cell? ⟨wp.heap.size, 2, none⟩ = some (.int .i64 0) := hx5.cell 2
            have g3 : w5.cell? ⟨wp.heap.size, 3, none⟩ = some (.int .i64 0) := hx5.cell 3
            have g4 : w5.cell? ⟨wp.heap.size, 4, none⟩ = some (.int .u32 0) := hx5.cell 4
            have g5 : w5.cell? ⟨wp.heap.size, 5, none⟩ = some (.int .i64 (1 + (u : Int) % 5)) := hx5.cell 5
            have g6 : w5.cell? ⟨wp.heap.size, 6, none⟩ = some (.string P) := hx5.cell 6
            have g7 : w5.cell? ⟨wp.heap.size, 7, none⟩ = some (.string Q) := hx5.cell 7
            have g8 : w5.cell? ⟨wp.heap.size, 8, none⟩ = some (.slice AL L.length cL) := hx5.cell 8
            have g9 : w5.cell? ⟨wp.heap.size, 9, none⟩ = some (.slice none 0 0) := hx5.cell 9
            have g10 : w5.cell? ⟨wp.heap.size, 10, none⟩ = some (.slice none 0 0) := hx5.cell 10
            go_wp2_with (at_builtin; refine wpList_append_row _ rfl (.tmp 162) (.tmp 164) 50 rfl w.heap.size 57 i0 _ 11 152 Try.underlying50 hi0 hz0 hz1 hz2 rfl (by omega) rfl (hrow5.row.alloc _) rfl (Rd.lit (xs := [.int .i64 ((x : Int) % 16 - 7), .int .i64 0, .int .i64 0, .int .i64 0, .int .u32 0, .int .i64 (1 + (u : Int) % 5), .string P, .string Q, .slice AL L.length cL, .slice none 0 0, .slice none 0 0]) (n := 1) rfl rfl rfl) (by simp [Value.oneCell']) (by simp only [maxLen]; omega) (by omega) (by rw [World.size_alloc]; omega) ?_; intro A4 c4 w4 hrow4 hg4 hat4)
            have hy5 : By w5 (fun b => w.heap.size ≤ b ∧ ablk A ≠ some b) AL L := ho5.rd.mono (fun b _ hb => by have h1 := (own_ablk ho5 b hb).1; exact ⟨by omega, fun e => by have := (hAl b e).2; omega⟩)
            have hp := hrow5.push (v := { a := { k := (x : Int) % 16 - 7, ek := 1 + (u : Int) % 5, p := P, t := Q, x := L }, xA := AL, xc := cL }) ⟨hy5, Rd.nil, Rd.nil, (by refine ⟨?_, ?_, ?_, ?_, ?_, ?_, ?_, ?_, ?_, ?_, ?_, ?_, ?_⟩ <;> (try simp [hz]) <;> (try omega))⟩ hrow4 hg4 hat4
            have hS := HSk.out { a := { k := (x : Int) % 16 - 7, ek := 1 + (u : Int) % 5, p := P, t := Q, x := L }, xA := AL, xc := cL } (by dsimp only; rw [hL.out])
            go_roundw
            case rel => exact ⟨s ++ [{ a := { k := (x : Int) % 16 - 7, ek := 1 + (u : Int) % 5, p := P, t := Q, x := L }, xA := AL, xc := cL }], A4, c4, i + 1 + 1 + 1, by simp, by go_num, by omega, hp.1, Lib.hid hS.1, hS.2, (hb.trans (hb5.mono hb.size)).trans (hp.2.below (by omega) (fun k hk e => absurd (hAl k e).1 (by omega)))⟩
            case measure => simp [lenOfV]; omega
      · rcases (show x / 16 % 4 = 0 ∨ x / 16 % 4 = 1 ∨ 2 ≤ x / 16 % 4 by omega) with h4 | h4 | h4
        · have q10 : decide ((x : Int) % 16 < 10) = false := by simp; omega
          have q12 : decide ((x : Int) % 16 < 12) = false := by simp; omega
          have e12 : ((x : Int) % 16 == 12) = true := by simp; omega
          have e13 : ((x : Int) % 16 == 13) = false := by simp; omega
          have e14 : ((x : Int) % 16 == 14) = false := by simp; omega
          have q4 : (x : Int) / 16 % 4 = 0 := by omega
          have hO : oneS x (l.drop (i + 1)) = ({ k := 5, s := 1 + (x : Int) / 128, n := ((nx (l.drop (i + 1))).1 : Int), b := 3 * ((nx (l.drop (i + 1))).1 : Int), m := 1 + 256 * ((nx (l.drop (i + 1 + 1))).1 : Int) }, l.drop (i + 1 + 1 + 1)) := by unfold oneS; rw [if_neg (by omega), if_pos (by omega), if_pos h4]; (try rw [hd1]); (try rw [hd2])
          have HSk := Lib.hid (fun (a : AV) (h : a.a = _) => HS.out a _ (by rw [hO]; exact h) (by rw [hO]) (by omega))
          clear hO HS hd1 hd2
          generalize (nx (l.drop (i + 1))).1 = u at *
          generalize (nx (l.drop (i + 1 + 1))).1 = v at *
          have bV : Below wr.heap.size wr (wr.alloc (.cells #[.int .i64 (5), .int .i64 (1 + (x : Int) / 128), .int .i64 (u : Int), .int .i64 (3 * (u : Int)), .int .u32 (1 + 256 * (v : Int)), .int .i64 0, .string ⟨#[]⟩, .string ⟨#[]⟩, .slice none 0 0, .slice none 0 0, .slice none 0 0] 57)) := (by repeat (first | exact Below.refl _ _ | refine Below.alloc ?_ (by simp) _ | refine Below.setCell ?_ (by simp) _ | refine Below.drew ?_))
          have sV : (wr.alloc (.cells #[.int .i64 (5), .int .i64 (1 + (x : Int) / 128), .int .i64 (u : Int), .int .i64 (3 * (u : Int)), .int .u32 (1 + 256 * (v : Int)), .int .i64 0, .string ⟨#[]⟩, .string ⟨#[]⟩, .slice none 0 0, .slice none 0 0, .slice none 0 0] 57)).heap.size = wr.heap.size + 1 := by simp
          have rV := hrow.below bV
          generalize hVV : (wr.alloc (.cells #[.int .i64 (5), .int .i64 (1 + (x : Int) / 128), .int .i64 (u : Int), .int .i64 (3 * (u : Int)), .int .u32 (1 + 256 * (v : Int)), .int .i64 0, .string ⟨#[]⟩, .string ⟨#[]⟩, .slice none 0 0, .slice none 0 0, .slice none 0 0] 57)) = VV at bV sV rV
          have HVV := Lib.hid hVV
          clear hVV
          go_wp2_with (first | (at_builtin; (rw [HVV.out]; refine wpList_append_row _ rfl (.tmp 162) (.tmp 164) 50 rfl w.heap.size 57 i0 _ 11 152 Try.underlying50 hi0 hz0 hz1 hz2 rfl (by omega) rfl (rV.row.alloc _) rfl (Rd.lit (xs := [.int .i64 (5), .int .i64 (1 + (x : Int) / 128), .int .i64 (u : Int), .int .i64 (3 * (u : Int)), .int .u32 (1 + 256 * (v : Int)), .int .i64 0, .string ⟨#[]⟩, .string ⟨#[]⟩, .slice none 0 0, .slice none 0 0, .slice none 0 0]) (n := 1) rfl rfl (by rw [sV])) (by simp [Value.oneCell']) (by simp only [maxLen]; omega) (by omega) (by rw [World.size_alloc, sV]; omega) ?_; intro A4 c4 w4 hrow4 hg4 hat4)) | (go_at_call 59; first | (with_reducible refine (HU.out _ (Below.refl _ _)).mono ?_; rintro e w2 ⟨rfl, rfl⟩) | (with_reducible refine (HV.out _ (Below.refl _ _)).mono ?_; rintro e w2 ⟨rfl, rfl⟩)) | (go_at_call 60; first | (with_reducible refine (HP.out _).mono ?_; rintro e w2 ⟨rfl, rfl⟩) | (with_reducible refine (HQ.out _).mono ?_; rintro e w2 ⟨rfl, rfl⟩)))
          have hp := rV.push (v := { a := { k := 5, s := 1 + (x : Int) / 128, n := (u : Int), b := 3 * (u : Int), m := 1 + 256 * (v : Int) } }) ⟨Rd.nil, Rd.nil, Rd.nil, (by refine ⟨?_, ?_, ?_, ?_, ?_, ?_, ?_, ?_, ?_, ?_, ?_, ?_, ?_⟩ <;> (try simp [hz]) <;> (try omega))⟩ hrow4 hg4 hat4
          have hS := HSk.out { a := { k := 5, s := 1 + (x : Int) / 128, n := (u : Int), b := 3 * (u : Int), m := 1 + 256 * (v : Int) } } rfl
          go_roundw
          case rel => exact ⟨s ++ [{ a := { k := 5, s := 1 + (x : Int) / 128, n := (u : Int), b := 3 * (u : Int), m := 1 + 256 * (v : Int) } }], A4, c4, i + 1 + 1 + 1, by simp, by go_num, by omega, hp.1, Lib.hid hS.1, hS.2, (hb.trans (bV.mono hb.size)).trans (hp.2.below (by rw [sV]; omega) (fun k hk e => absurd (hAl k e).1 (by omega)))⟩
          case measure => simp [lenOfV]; omega
        · have q10 : decide ((x : Int) % 16 < 10) = false := by simp; omega
          have q12 : decide ((x : Int) % 16 < 12) = false := by simp; omega
          have e12 : ((x : Int) % 16 == 12) = true := by simp; omega
          have e13 : ((x : Int) % 16 == 13) = false := by simp; omega
          have e14 : ((x : Int) % 16 == 14) = false := by simp; omega
          have q4 : (x : Int) / 16 % 4 = 1 := by omega
          have hO : oneS x (l.drop (i + 1)) = ({ k := 6, s := 1 + (x : Int) / 128, n := ((nx (l.drop (i + 1))).1 : Int), b := 3 * ((nx (l.drop (i + 1))).1 : Int), m := 1 + 256 * ((nx (l.drop (i + 1 + 1))).1 : Int) }, l.drop (i + 1 + 1 + 1)) := by unfold oneS; rw [if_neg (by omega), if_pos (by omega), if_neg (by omega), if_pos h4]; (try rw [hd1]); (try rw [hd2])
          have HSk := Lib.hid (fun (a : AV) (h : a.a = _) => HS.out a _ (by rw [hO]; exact h) (by rw [hO]) (by omega))
          clear hO HS hd1 hd2
          generalize (nx (l.drop (i + 1))).1 = u at *
          generalize (nx (l.drop (i + 1 + 1))).1 = v at *
          have bV : Below wr.heap.size wr (wr.alloc (.cells #[.int .i64 (6), .int .i64 (1 + (x : Int) / 128), .int .i64 (u : Int), .int .i64 (3 * (u : Int)), .int .u32 (1 + 256 * (v : Int)), .int .i64 0, .string ⟨#[]⟩, .string ⟨#[]⟩, .slice none 0 0, .slice none 0 0, .slice none 0 0] 57)) := (by repeat (first | exact Below.refl _ _ | refine Below.alloc ?_ (by simp) _ | refine Below.setCell ?_ (by simp) _ | refine Below.drew ?_))
          have sV : (wr.alloc (.cells #[.int .i64 (6), .int .i64 (1 + (x : Int) / 128), .int .i64 (u : Int), .int .i64 (3 * (u : Int)), .int .u32 (1 + 256 * (v : Int)), .int .i64 0, .string ⟨#[]⟩, .string ⟨#[]⟩, .slice none 0 0, .slice none 0 0, .slice none 0 0] 57)).heap.size = wr.heap.size + 1 := by simp
          have rV := hrow.below bV
          generalize hVV : (wr.alloc (.cells #[.int .i64 (6), .int .i64 (1 + (x : Int) / 128), .int .i64 (u : Int), .int .i64 (3 * (u : Int)), .int .u32 (1 + 256 * (v : Int)), .int .i64 0, .string ⟨#[]⟩, .string ⟨#[]⟩, .slice none 0 0, .slice none 0 0, .slice none 0 0] 57)) = VV at bV sV rV
          have HVV := Lib.hid hVV
          clear hVV
          go_wp2_with (first | (at_builtin; (rw [HVV.out]; refine wpList_append_row _ rfl (.tmp 162) (.tmp 164) 50 rfl w.heap.size 57 i0 _ 11 152 Try.underlying50 hi0 hz0 hz1 hz2 rfl (by omega) rfl (rV.row.alloc _) rfl (Rd.lit (xs := [.int .i64 (6), .int .i64 (1 + (x : Int) / 128), .int .i64 (u : Int), .int .i64 (3 * (u : Int)), .int .u32 (1 + 256 * (v : Int)), .int .i64 0, .string ⟨#[]⟩, .string ⟨#[]⟩, .slice none 0 0, .slice none 0 0, .slice none 0 0]) (n := 1) rfl rfl (by rw [sV])) (by simp [Value.oneCell']) (by simp only [maxLen]; omega) (by omega) (by rw [World.size_alloc, sV]; omega) ?_; intro A4 c4 w4 hrow4 hg4 hat4)) | (go_at_call 59; first | (with_reducible refine (HU.out _ (Below.refl _ _)).mono ?_; rintro e w2 ⟨rfl, rfl⟩) | (with_reducible refine (HV.out _ (Below.refl _ _)).mono ?_; rintro e w2 ⟨rfl, rfl⟩)) | (go_at_call 60; first | (with_reducible refine (HP.out _).mono ?_; rintro e w2 ⟨rfl, rfl⟩) | (with_reducible refine (HQ.out _).mono ?_; rintro e w2 ⟨rfl, rfl⟩)))
          have hp := rV.push (v := { a := { k := 6, s := 1 + (x : Int) / 128, n := (u : Int), b := 3 * (u : Int), m := 1 + 256 * (v : Int) } }) ⟨Rd.nil, Rd.nil, Rd.nil, (by refine ⟨?_, ?_, ?_, ?_, ?_, ?_, ?_, ?_, ?_, ?_, ?_, ?_, ?_⟩ <;> (try simp [hz]) <;> (try omega))⟩ hrow4 hg4 hat4
          have hS := HSk.out { a := { k := 6, s := 1 + (x : Int) / 128, n := (u : Int), b := 3 * (u : Int), m := 1 + 256 * (v : Int) } } rfl
          go_roundw
          case rel => exact ⟨s ++ [{ a := { k := 6, s := 1 + (x : Int) / 128, n := (u : Int), b := 3 * (u : Int), m := 1 + 256 * (v : Int) } }], A4, c4, i + 1 + 1 + 1, by simp, by go_num, by omega, hp.1, Lib.hid hS.1, hS.2, (hb.trans (bV.mono hb.size)).trans (hp.2.below (by rw [sV]; omega) (fun k hk e => absurd (hAl k e).1 (by omega)))⟩
          case measure => simp [lenOfV]; omega
        · have q10 : decide ((x : Int) % 16 < 10) = false := by simp; omega
          have q12 : decide ((x : Int) % 16 < 12) = false := by simp; omega
          have e12 : ((x : Int) % 16 == 12) = true := by simp; omega
          have e13 : ((x : Int) % 16 == 13) = false := by simp; omega
          have e14 : ((x : Int) % 16 == 14) = false := by simp; omega
          have q4 : decide ((x : Int) / 16 % 4 < 2) = false := by simp; omega
          have hO : oneS x (l.drop (i + 1)) = ({ k := 7, s := 1 + (x : Int) / 128, n := ((nx (l.drop (i + 1))).1 : Int), b := 3 * ((nx (l.drop (i + 1))).1 : Int), m := 1 + 256 * ((nx (l.drop (i + 1 + 1))).1 : Int) }, l.drop (i + 1 + 1 + 1)) := by unfold oneS; rw [if_neg (by omega), if_pos (by omega), if_neg (by omega), if_neg (by omega)]; (try rw [hd1]); (try rw [hd2])
          have HSk := Lib.hid (fun (a : AV) (h : a.a = _) => HS.out a _ (by rw [hO]; exact h) (by rw [hO]) (by omega))
          clear hO HS hd1 hd2
          generalize (nx (l.drop (i + 1))).1 = u at *
          generalize (nx (l.drop (i + 1 + 1))).1 = v at *
          have bV : Below wr.heap.size wr (wr.alloc (.cells #[.int .i64 (7), .int .i64 (1 + (x : Int) / 128), .int .i64 (u : Int), .int .i64 (3 * (u : Int)), .int .u32 (1 + 256 * (v : Int)), .int .i64 0, .string ⟨#[]⟩, .string ⟨#[]⟩, .slice none 0 0, .slice none 0 0, .slice none 0 0] 57)) := (by repeat (first | exact Below.refl _ _ | refine Below.alloc ?_ (by simp) _ | refine Below.setCell ?_ (by simp) _ | refine Below.drew ?_))
          have sV : (wr.alloc (.cells #[.int .i64 (7), .int .i64 (1 + (x : Int) / 128), .int .i64 (u : Int), .int .i64 (3 * (u : Int)), .int .u32 (1 + 256 * (v : Int)), .int .i64 0, .string ⟨#[]⟩, .string ⟨#[]⟩, .slice none 0 0, .slice none 0 0, .slice none 0 0] 57)).heap.size = wr.heap.size + 1 := by simp
          have rV := hrow.below bV
          generalize hVV : (wr.alloc (.cells #[.int .i64 (7), .int .i64 (1 + (x : Int) / 128), .int .i64 (u : Int), .int .i64 (3 * (u : Int)), .int .u32 (1 + 256 * (v : Int)), .int .i64 0, .string ⟨#[]⟩, .string ⟨#[]⟩, .slice none 0 0, .slice none 0 0, .slice none 0 0] 57)) = VV at bV sV rV
          have HVV := Lib.hid hVV
          clear hVV
          go_wp2_with (first | (at_builtin; (rw [HVV.out]; refine wpList_append_row _ rfl (.tmp 162) (.tmp 164) 50 rfl w.heap.size 57 i0 _ 11 152 Try.underlying50 hi0 hz0 hz1 hz2 rfl (by omega) rfl (rV.row.alloc _) rfl (Rd.lit (xs := [.int .i64 (7), .int .i64 (1 + (x : Int) / 128), .int .i64 (u : Int), .int .i64 (3 * (u : Int)), .int .u32 (1 + 256 * (v : Int)), .int .i64 0, .string ⟨#[]⟩, .string ⟨#[]⟩, .slice none 0 0, .slice none 0 0, .slice none 0 0]) (n := 1) rfl rfl (by rw [sV])) (by simp [Value.oneCell']) (by simp only [maxLen]; omega) (by omega) (by rw [World.size_alloc, sV]; omega) ?_; intro A4 c4 w4 hrow4 hg4 hat4)) | (go_at_call 59; first | (with_reducible refine (HU.out _ (Below.refl _ _)).mono ?_; rintro e w2 ⟨rfl, rfl⟩) | (with_reducible refine (HV.out _ (Below.refl _ _)).mono ?_; rintro e w2 ⟨rfl, rfl⟩)) | (go_at_call 60; first | (with_reducible refine (HP.out _).mono ?_; rintro e w2 ⟨rfl, rfl⟩) | (with_reducible refine (HQ.out _).mono ?_; rintro e w2 ⟨rfl, rfl⟩)))
          have hp := rV.push (v := { a := { k := 7, s := 1 + (x : Int) / 128, n := (u : Int), b := 3 * (u : Int), m := 1 + 256 * (v : Int) } }) ⟨Rd.nil, Rd.nil, Rd.nil, (by refine ⟨?_, ?_, ?_, ?_, ?_, ?_, ?_, ?_, ?_, ?_, ?_, ?_, ?_⟩ <;> (try simp [hz]) <;> (try omega))⟩ hrow4 hg4 hat4
          have hS := HSk.out { a := { k := 7, s := 1 + (x : Int) / 128, n := (u : Int), b := 3 * (u : Int), m := 1 + 256 * (v : Int) } } rfl
          go_roundw
          case rel => exact ⟨s ++ [{ a := { k := 7, s := 1 + (x : Int) / 128, n := (u : Int), b := 3 * (u : Int), m := 1 + 256 * (v : Int) } }], A4, c4, i + 1 + 1 + 1, by simp, by go_num, by omega, hp.1, Lib.hid hS.1, hS.2, (hb.trans (bV.mono hb.size)).trans (hp.2.below (by rw [sV]; omega) (fun k hk e => absurd (hAl k e).1 (by omega)))⟩
          case measure => simp [lenOfV]; omega
      · have q10 : decide ((x : Int) % 16 < 10) = false := by simp; omega
        have q12 : decide ((x : Int) % 16 < 12) = false := by simp; omega
        have e12 : ((x : Int) % 16 == 12) = false := by simp; omega
        have e13 : ((x : Int) % 16 == 13) = true := by simp; omega
        have e14 : ((x : Int) % 16 == 14) = false := by simp; omega
        have hO : oneS x (l.drop (i + 1)) = ({ k := 8 + (x : Int) / 16 % 2, n := ((nx (l.drop (i + 1))).1 : Int) % 16, kl := [⟨((nx (l.drop (i + 1))).1 : Int) / 16, ((nx (l.drop (i + 1 + 1))).1 : Int)⟩] }, l.drop (i + 1 + 1 + 1)) := by unfold oneS; rw [if_neg (by omega), if_neg (by omega), if_pos (by omega)]; (try rw [hd1]); (try rw [hd2])
        have HSk := Lib.hid (fun (a : AV) (h : a.a = _) => HS.out a _ (by rw [hO]; exact h) (by rw [hO]) (by omega))
        clear hO HS hd1 hd2
        generalize (nx (l.drop (i + 1))).1 = u at *
        generalize (nx (l.drop (i + 1 + 1))).1 = v at *
        have bV : Below wr.heap.size wr ((wr.alloc (.cells #[.int .i64 (8 + (x : Int) / 16 % 2), .int .i64 0, .int .i64 ((u : Int) % 16), .int .i64 0, .int .u32 0, .int .i64 0, .string ⟨#[]⟩, .string ⟨#[]⟩, .slice none 0 0, .slice (some ⟨wr.heap.size + 1, 0, none⟩) 1 1, .slice none 0 0] 57)).alloc (.cells #[.int .i64 ((u : Int) / 16), .int .i64 (v : Int)] 91)) := (by repeat (first | exact Below.refl _ _ | refine Below.alloc ?_ (by simp) _ | refine Below.setCell ?_ (by simp) _ | refine Below.drew ?_))
        have sV : ((wr.alloc (.cells #[.int .i64 (8 + (x : Int) / 16 % 2), .int .i64 0, .int .i64 ((u : Int) % 16), .int .i64 0, .int .u32 0, .int .i64 0, .string ⟨#[]⟩, .string ⟨#[]⟩, .slice none 0 0, .slice (some ⟨wr.heap.size + 1, 0, none⟩) 1 1, .slice none 0 0] 57)).alloc (.cells #[.int .i64 ((u : Int) / 16), .int .i64 (v : Int)] 91)).heap.size = wr.heap.size + 2 := by simp
        have rV := hrow.below bV
        have lV : Rd ((wr.alloc (.cells #[.int .i64 (8 + (x : Int) / 16 % 2), .int .i64 0, .int .i64 ((u : Int) % 16), .int .i64 0, .int .u32 0, .int .i64 0, .string ⟨#[]⟩, .string ⟨#[]⟩, .slice none 0 0, .slice (some ⟨wr.heap.size + 1, 0, none⟩) 1 1, .slice none 0 0] 57)).alloc (.cells #[.int .i64 ((u : Int) / 16), .int .i64 (v : Int)] 91)) (fun b => wr.heap.size ≤ b) 2 (some ⟨wr.heap.size + 1, 0, none⟩) 1 [.int .i64 ((u : Int) / 16), .int .i64 (v : Int)] := (Rd.lit rfl rfl (by simp)).mono (fun b _ hb => by simp at hb; omega)
        generalize hVV : ((wr.alloc (.cells #[.int .i64 (8 + (x : Int) / 16 % 2), .int .i64 0, .int .i64 ((u : Int) % 16), .int .i64 0, .int .u32 0, .int .i64 0, .string ⟨#[]⟩, .string ⟨#[]⟩, .slice none 0 0, .slice (some ⟨wr.heap.size + 1, 0, none⟩) 1 1, .slice none 0 0] 57)).alloc (.cells #[.int .i64 ((u : Int) / 16), .int .i64 (v : Int)] 91)) = VV at bV sV rV lV
        have HVV := Lib.hid hVV
        clear hVV
        go_wp2_with (first | (at_builtin; (rw [HVV.out]; refine wpList_append_row _ rfl (.tmp 162) (.tmp 164) 50 rfl w.heap.size 57 i0 _ 11 152 Try.underlying50 hi0 hz0 hz1 hz2 rfl (by omega) rfl (rV.row.alloc _) rfl (Rd.lit (xs := [.int .i64 (8 + (x : Int) / 16 % 2), .int .i64 0, .int .i64 ((u : Int) % 16), .int .i64 0, .int .u32 0, .int .i64 0, .string ⟨#[]⟩, .string ⟨#[]⟩, .slice none 0 0, .slice (some ⟨wr.heap.size + 1, 0, none⟩) 1 1, .slice none 0 0]) (n := 1) rfl rfl (by rw [sV])) (by simp [Value.oneCell']) (by simp only [maxLen]; omega) (by omega) (by rw [World.size_alloc, sV]; omega) ?_; intro A4 c4 w4 hrow4 hg4 hat4)) | (go_at_call 59; first | (with_reducible refine (HU.out _ (Below.refl _ _)).mono ?_; rintro e w2 ⟨rfl, rfl⟩) | (with_reducible refine (HV.out _ (Below.refl _ _)).mono ?_; rintro e w2 ⟨rfl, rfl⟩)) | (go_at_call 60; first | (with_reducible refine (HP.out _).mono ?_; rintro e w2 ⟨rfl, rfl⟩) | (with_reducible refine (HQ.out _).mono ?_; rintro e w2 ⟨rfl, rfl⟩)))
        have hp := rV.push (v := { a := { k := 8 + (x : Int) / 16 % 2, n := (u : Int) % 16, kl := [⟨(u : Int) / 16, (v : Int)⟩] }, kA := some ⟨wr.heap.size + 1, 0, none⟩, kc := 1 }) ⟨Rd.nil, (lV.mono (fun b _ hb => ⟨by omega, fun e => by have := (hAl b e).2; omega⟩)), Rd.nil, (by refine ⟨?_, ?_, ?_, ?_, ?_, ?_, ?_, ?_, ?_, ?_, ?_, ?_, ?_⟩ <;> (try simp [hz]) <;> (try omega))⟩ hrow4 hg4 hat4
        have hS := HSk.out { a := { k := 8 + (x : Int) / 16 % 2, n := (u : Int) % 16, kl := [⟨(u : Int) / 16, (v : Int)⟩] }, kA := some ⟨wr.heap.size + 1, 0, none⟩, kc := 1 } rfl
        go_roundw
        case rel => exact ⟨s ++ [{ a := { k := 8 + (x : Int) / 16 % 2, n := (u : Int) % 16, kl := [⟨(u : Int) / 16, (v : Int)⟩] }, kA := some ⟨wr.heap.size + 1, 0, none⟩, kc := 1 }], A4, c4, i + 1 + 1 + 1, by simp, by go_num, by omega, hp.1, Lib.hid hS.1, hS.2, (hb.trans (bV.mono hb.size)).trans (hp.2.below (by rw [sV]; omega) (fun k hk e => absurd (hAl k e).1 (by omega)))⟩
        case measure => simp [lenOfV]; omega
      · have q10 : decide ((x : Int) % 16 < 10) = false := by simp; omega
        have q12 : decide ((x : Int) % 16 < 12) = false := by simp; omega
        have e12 : ((x : Int) % 16 == 12) = false := by simp; omega
        have e13 : ((x : Int) % 16 == 13) = false := by simp; omega
        have e14 : ((x : Int) % 16 == 14) = true := by simp; omega
        have hO : oneS x (l.drop (i + 1)) = ({ k := 10 + (x : Int) / 16 % 2, n := ((nx (l.drop (i + 1))).1 : Int) % 16 }, l.drop (i + 1 + 1)) := by unfold oneS; rw [if_neg (by omega), if_neg (by omega), if_neg (by omega), if_pos (by omega)]; (try rw [hd1]); (try rw [hd2])
        have HSk := Lib.hid (fun (a : AV) (h : a.a = _) => HS.out a _ (by rw [hO]; exact h) (by rw [hO]) (by omega))
        clear hO HS hd1 hd2
        generalize (nx (l.drop (i + 1))).1 = u at *
        generalize (nx (l.drop (i + 1 + 1))).1 = v at *
        have bV : Below wr.heap.size wr (wr.alloc (.cells #[.int .i64 (10 + (x : Int) / 16 % 2), .int .i64 0, .int .i64 ((u : Int) % 16), .int .i64 0, .int .u32 0, .int .i64 0, .string ⟨#[]⟩, .string ⟨#[]⟩, .slice none 0 0, .slice none 0 0, .slice none 0 0] 57)) := (by repeat (first | exact Below.refl _ _ | refine Below.alloc ?_ (by simp) _ | refine Below.setCell ?_ (by simp) _ | refine Below.drew ?_))
        have sV : (wr.alloc (.cells #[.int .i64 (10 + (x : Int) / 16 % 2), .int .i64 0, .int .i64 ((u : Int) % 16), .int .i64 0, .int .u32 0, .int .i64 0, .string ⟨#[]⟩, .string ⟨#[]⟩, .slice none 0 0, .slice none 0 0, .slice none 0 0] 57)).heap.size = wr.heap.size + 1 := by simp
        have rV := hrow.below bV
        generalize hVV : (wr.alloc (.cells #[.int .i64 (10 + (x : Int) / 16 % 2), .int .i64 0, .int .i64 ((u : Int) % 16), .int .i64 0, .int .u32 0, .int .i64 0, .string ⟨#[]⟩, .string ⟨#[]⟩, .slice none 0 0, .slice none 0 0, .slice none 0 0] 57)) = VV at bV sV rV
        have HVV := Lib.hid hVV
        clear hVV
        go_wp2_with (first | (at_builtin; (rw [HVV.out]; refine wpList_append_row _ rfl (.tmp 162) (.tmp 164) 50 rfl w.heap.size 57 i0 _ 11 152 Try.underlying50 hi0 hz0 hz1 hz2 rfl (by omega) rfl (rV.row.alloc _) rfl (Rd.lit (xs := [.int .i64 (10 + (x : Int) / 16 % 2), .int .i64 0, .int .i64 ((u : Int) % 16), .int .i64 0, .int .u32 0, .int .i64 0, .string ⟨#[]⟩, .string ⟨#[]⟩, .slice none 0 0, .slice none 0 0, .slice none 0 0]) (n := 1) rfl rfl (by rw [sV])) (by simp [Value.oneCell']) (by simp only [maxLen]; omega) (by omega) (by rw [World.size_alloc, sV]; omega) ?_; intro A4 c4 w4 hrow4 hg4 hat4)) | (go_at_call 59; first | (with_reducible refine (HU.out _ (Below.refl _ _)).mono ?_; rintro e w2 ⟨rfl, rfl⟩) | (with_reducible refine (HV.out _ (Below.refl _ _)).mono ?_; rintro e w2 ⟨rfl, rfl⟩)) | (go_at_call 60; first | (with_reducible refine (HP.out _).mono ?_; rintro e w2 ⟨rfl, rfl⟩) | (with_reducible refine (HQ.out _).mono ?_; rintro e w2 ⟨rfl, rfl⟩)))
        have hp := rV.push (v := { a := { k := 10 + (x : Int) / 16 % 2, n := (u : Int) % 16 } }) ⟨Rd.nil, Rd.nil, Rd.nil, (by refine ⟨?_, ?_, ?_, ?_, ?_, ?_, ?_, ?_, ?_, ?_, ?_, ?_, ?_⟩ <;> (try simp [hz]) <;> (try omega))⟩ hrow4 hg4 hat4
        have hS := HSk.out { a := { k := 10 + (x : Int) / 16 % 2, n := (u : Int) % 16 } } rfl
        go_roundw
        case rel => exact ⟨s ++ [{ a := { k := 10 + (x : Int) / 16 % 2, n := (u : Int) % 16 } }], A4, c4, i + 1 + 1, by simp, by go_num, by omega, hp.1, Lib.hid hS.1, hS.2, (hb.trans (bV.mono hb.size)).trans (hp.2.below (by rw [sV]; omega) (fun k hk e => absurd (hAl k e).1 (by omega)))⟩
        case measure => simp [lenOfV]; omega
      · by_cases h2 : x / 16 % 2 = 1
        · have q10 : decide ((x : Int) % 16 < 10) = false := by simp; omega
          have q12 : decide ((x : Int) % 16 < 12) = false := by simp; omega
          have e12 : ((x : Int) % 16 == 12) = false := by simp; omega
          have e13 : ((x : Int) % 16 == 13) = false := by simp; omega
          have e14 : ((x : Int) % 16 == 14) = false := by simp; omega
          have q2 : ((x : Int) / 16 % 2 == 1) = true := by simp; omega
          have hO : oneS x (l.drop (i + 1)) = ({ k := 12, cl := [⟨pathV (nx (l.drop (i + 1))).1, 1 + ((nx (l.drop (i + 1))).1 : Int) / 128⟩] }, l.drop (i + 1 + 1)) := by unfold oneS; rw [if_neg (by omega), if_neg (by omega), if_neg (by omega), if_neg (by omega), if_pos (by omega), if_pos h2]; (try rw [hd1]); (try rw [hd2])
          have HSk := Lib.hid (fun (a : AV) (h : a.a = _) => HS.out a _ (by rw [hO]; exact h) (by rw [hO]) (by omega))
          clear hO HS hd1 hd2
          generalize (nx (l.drop (i + 1))).1 = u at *
          generalize (nx (l.drop (i + 1 + 1))).1 = v at *
          have hps := pathV_size u
          have HP := Lib.hid (fun w => pathR_any u (by omega) w)
          have HQ := HP
          generalize pathV u = P at *
          have bV : Below wr.heap.size wr ((wr.alloc (.cells #[.int .i64 12, .int .i64 0, .int .i64 0, .int .i64 0, .int .u32 0, .int .i64 0, .string ⟨#[]⟩, .string ⟨#[]⟩, .slice none 0 0, .slice none 0 0, .slice (some ⟨wr.heap.size + 1, 0, none⟩) 1 1] 57)).alloc (.cells #[.string P, .int .i64 (1 + (u : Int) / 128)] 95)) := (by repeat (first | exact Below.refl _ _ | refine Below.alloc ?_ (by simp) _ | refine Below.setCell ?_ (by simp) _ | refine Below.drew ?_))
          have sV : ((wr.alloc (.cells #[.int .i64 12, .int .i64 0, .int .i64 0, .int .i64 0, .int .u32 0, .int .i64 0, .string ⟨#[]⟩, .string ⟨#[]⟩, .slice none 0 0, .slice none 0 0, .slice (some ⟨wr.heap.size + 1, 0, none⟩) 1 1] 57)).alloc (.cells #[.string P, .int .i64 (1 + (u : Int) / 128)] 95)).heap.size = wr.heap.size + 2 := by simp
          have rV := hrow.below bV
          have lV : Rd ((wr.alloc (.cells #[.int .i64 12, .int .i64 0, .int .i64 0, .int .i64 0, .int .u32 0, .int .i64 0, .string ⟨#[]⟩, .string ⟨#[]⟩, .slice none 0 0, .slice none 0 0, .slice (some ⟨wr.heap.size + 1, 0, none⟩) 1 1] 57)).alloc (.cells #[.string P, .int .i64 (1 + (u : Int) / 128)] 95)) (fun b => wr.heap.size ≤ b) 2 (some ⟨wr.heap.size + 1, 0, none⟩) 1 [.string P, .int .i64 (1 + (u : Int) / 128)] := (Rd.lit rfl rfl (by simp)).mono (fun b _ hb => by simp at hb; omega)
          generalize hVV : ((wr.alloc (.cells #[.int .i64 12, .int .i64 0, .int .i64 0, .int .i64 0, .int .u32 0, .int .i64 0, .string ⟨#[]⟩, .string ⟨#[]⟩, .slice none 0 0, .slice none 0 0, .slice (some ⟨wr.heap.size + 1, 0, none⟩) 1 1] 57)).alloc (.cells #[.string P, .int .i64 (1 + (u : Int) / 128)] 95)) = VV at bV sV rV lV
          have HVV := Lib.hid hVV
          clear hVV
          go_wp2_with (first | (at_builtin; (rw [HVV.out]; refine wpList_append_row _ rfl (.tmp 162) (.tmp 164) 50 rfl w.heap.size 57 i0 _ 11 152 Try.underlying50 hi0 hz0 hz1 hz2 rfl (by omega) rfl (rV.row.alloc _) rfl (Rd.lit (xs := [.int .i64 12, .int .i64 0, .int .i64 0, .int .i64 0, .int .u32 0, .int .i64 0, .string ⟨#[]⟩, .string ⟨#[]⟩, .slice none 0 0, .slice none 0 0, .slice (some ⟨wr.heap.size + 1, 0, none⟩) 1 1]) (n := 1) rfl rfl (by rw [sV])) (by simp [Value.oneCell']) (by simp only [maxLen]; omega) (by omega) (by rw [World.size_alloc, sV]; omega) ?_; intro A4 c4 w4 hrow4 hg4 hat4)) | (go_at_call 59; first | (with_reducible refine (HU.out _ (Below.refl _ _)).mono ?_; rintro e w2 ⟨rfl, rfl⟩) | (with_reducible refine (HV.out _ (Below.refl _ _)).mono ?_; rintro e w2 ⟨rfl, rfl⟩)) | (go_at_call 60; first | (with_reducible refine (HP.out _).mono ?_; rintro e w2 ⟨rfl, rfl⟩) | (with_reducible refine (HQ.out _).mono ?_; rintro e w2 ⟨rfl, rfl⟩)))
          have hp := rV.push (v := { a := { k := 12, cl := [⟨P, 1 + (u : Int) / 128⟩] }, cA := some ⟨wr.heap.size + 1, 0, none⟩, cc := 1 }) ⟨Rd.nil, Rd.nil, (lV.mono (fun b _ hb => ⟨by omega, fun e => by have := (hAl b e).2; omega⟩)), (by refine ⟨?_, ?_, ?_, ?_, ?_, ?_, ?_, ?_, ?_, ?_, ?_, ?_, ?_⟩ <;> (try simp [hz]) <;> (try omega))⟩ hrow4 hg4 hat4
          have hS := HSk.out { a := { k := 12, cl := [⟨P, 1 + (u : Int) / 128⟩] }, cA := some ⟨wr.heap.size + 1, 0, none⟩, cc := 1 } rfl
          go_roundw
          case rel => exact ⟨s ++ [{ a := { k := 12, cl := [⟨P, 1 + (u : Int) / 128⟩] }, cA := some ⟨wr.heap.size + 1, 0, none⟩, cc := 1 }], A4, c4, i + 1 + 1, by simp, by go_num, by omega, hp.1, Lib.hid hS.1, hS.2, (hb.trans (bV.mono hb.size)).trans (hp.2.below (by rw [sV]; omega) (fun k hk e => absurd (hAl k e).1 (by omega)))⟩
          case measure => simp [lenOfV]; omega
        · have q10 : decide ((x : Int) % 16 < 10) = false := by simp; omega
          have q12 : decide ((x : Int) % 16 < 12) = false := by simp; omega
          have e12 : ((x : Int) % 16 == 12) = false := by simp; omega
          have e13 : ((x : Int) % 16 == 13) = false := by simp; omega
          have e14 : ((x : Int) % 16 == 14) = false := by simp; omega
          have q2 : ((x : Int) / 16 % 2 == 1) = false := by simp; omega
          have hO : oneS x (l.drop (i + 1)) = ({ k := 12 }, l.drop (i + 1)) := by unfold oneS; rw [if_neg (by omega), if_neg (by omega), if_neg (by omega), if_neg (by omega), if_pos (by omega), if_neg h2]; (try rw [hd1]); (try rw [hd2])
          have HSk := Lib.hid (fun (a : AV) (h : a.a = _) => HS.out a _ (by rw [hO]; exact h) (by rw [hO]) (by omega))
          clear hO HS hd1 hd2
          generalize (nx (l.drop (i + 1))).1 = u at *
          generalize (nx (l.drop (i + 1 + 1))).1 = v at *
          have bV : Below wr.heap.size wr (wr.alloc (.cells #[.int .i64 12, .int .i64 0, .int .i64 0, .int .i64 0, .int .u32 0, .int .i64 0, .string ⟨#[]⟩, .string ⟨#[]⟩, .slice none 0 0, .slice none 0 0, .slice none 0 0] 57)) := (by repeat (first | exact Below.refl _ _ | refine Below.alloc ?_ (by simp) _ | refine Below.setCell ?_ (by simp) _ | refine Below.drew ?_))
          have sV : (wr.alloc (.cells #[.int .i64 12, .int .i64 0, .int .i64 0, .int .i64 0, .int .u32 0, .int .i64 0, .string ⟨#[]⟩, .string ⟨#[]⟩, .slice none 0 0, .slice none 0 0, .slice none 0 0] 57)).heap.size = wr.heap.size + 1 := by simp
          have rV := hrow.below bV
          generalize hVV : (wr.alloc (.cells #[.int .i64 12, .int .i64 0, .int .i64 0, .int .i64 0, .int .u32 0, .int .i64 0, .string ⟨#[]⟩, .string ⟨#[]⟩, .slice none 0 0, .slice none 0 0, .slice none 0 0] 57)) = VV at bV sV rV
          have HVV := Lib.hid hVV
          clear hVV
          go_wp2_with (first | (at_builtin; (rw [HVV.out]; refine wpList_append_row _ rfl (.tmp 162) (.tmp 164) 50 rfl w.heap.size 57 i0 _ 11 152 Try.underlying50 hi0 hz0 hz1 hz2 rfl (by omega) rfl (rV.row.alloc _) rfl (Rd.lit (xs := [.int .i64 12, .int .i64 0, .int .i64 0, .int .i64 0, .int .u32 0, .int .i64 0, .string ⟨#[]⟩, .string ⟨#[]⟩, .slice none 0 0, .slice none 0 0, .slice none 0 0]) (n := 1) rfl rfl (by rw [sV])) (by simp [Value.oneCell']) (by simp only [maxLen]; omega) (by omega) (by rw [World.size_alloc, sV]; omega) ?_; intro A4 c4 w4 hrow4 hg4 hat4)) | (go_at_call 59; first | (with_reducible refine (HU.out _ (Below.refl _ _)).mono ?_; rintro e w2 ⟨rfl, rfl⟩) | (with_reducible refine (HV.out _ (Below.refl _ _)).mono ?_; rintro e w2 ⟨rfl, rfl⟩)) | (go_at_call 60; first | (with_reducible refine (HP.out _).mono ?_; rintro e w2 ⟨rfl, rfl⟩) | (with_reducible refine (HQ.out _).mono ?_; rintro e w2 ⟨rfl, rfl⟩)))
          have hp := rV.push (v := { a := { k := 12 } }) ⟨Rd.nil, Rd.nil, Rd.nil, (by refine ⟨?_, ?_, ?_, ?_, ?_, ?_, ?_, ?_, ?_, ?_, ?_, ?_, ?_⟩ <;> (try simp [hz]) <;> (try omega))⟩ hrow4 hg4 hat4
          have hS := HSk.out { a := { k := 12 } } rfl
          go_roundw
          case rel => exact ⟨s ++ [{ a := { k := 12 } }], A4, c4, i + 1, by simp, by go_num, by omega, hp.1, Lib.hid hS.1, hS.2, (hb.trans (bV.mono hb.size)).trans (hp.2.below (by rw [sV]; omega) (fun k hk e => absurd (hAl k e).1 (by omega)))⟩
          case measure => simp [lenOfV]; omega
    · have HF2 := hF.out
      rw [List.drop_of_length_le (by omega), anyF_nil, List.append_nil] at HF2
      clear hF
      go_wp2_with fail
      go_ret
      exact ⟨A, c, s, rfl, HF2.symm, hrow.acts (fun b hb _ => hb) (by omega), by omega, hb⟩
end Go.Proofs.Ytpbgcbpofhbgbaa
