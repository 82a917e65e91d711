/- tenderref05.block. -/
import Derived.Test.YtjcfphdjgagimaaGreatDoorA04

namespace Go.Proofs.YtjcfphdjgagimaaGreatDoor
open Go.RowKit

theorem u32_info : (Tryz.prog.info? 76).map (fun i => (i.zero, i.size, i.bytes)) = some (some (.int .u32 0), 1, 4) := by kernel_rfl
/-- a row of words of the call's own -/
def OwW (w : World) (base : Nat) (A : Option Addr) (c : Nat) (L : List Nat) : Prop := w.ownsRow base 76 1 (.slice A L.length c) L.length (L.map u32v)
theorem OwW.below {w w' : World} {base : Nat} {A : Option Addr} {c : Nat} {L : List Nat} (h : OwW w base A c L) (k : Below w.heap.size w w') : OwW w' base A c L := own_below h k
theorem OwW.nil (w : World) (base : Nat) : OwW w base none 0 [] := World.ownsRow_nil _ _ _ _
theorem OwW.at_ {w : World} {base : Nat} {A : Option Addr} {c : Nat} {L : List Nat} (h : OwW w base A c L) (hl : 0 < L.length) : ∃ g, A = some ⟨g, 0, none⟩ ∧ base ≤ g ∧ g < w.heap.size := by
  obtain ⟨g, cap, hv, _, hlt⟩ := World.ownsRow.form h hl
  injection hv with hA
  exact ⟨g, hA, (World.ownsRow.lt h g (by rw [hA]; rfl)).1, hlt⟩
theorem OwW.cell {w : World} {base g c : Nat} {L : List Nat} (h : OwW w base (some ⟨g, 0, none⟩) c L) {i : Nat} (hi : i < L.length) : w.cell? ⟨g, i, none⟩ = some (.int .u32 ((L.getD i 0 : Nat) : Int)) := by
  have := World.ownsRow.cellAt h i (by omega)
  rw [this, List.getElem?_map, List.getElem?_eq_getElem hi, List.getD_eq_getElem?_getD, List.getElem?_eq_getElem hi]
  rfl
/-- a row of words to be read -/
theorem RdW.at_ {w : World} {Z : Nat → Prop} {A : Option Addr} {L : List Nat} (h : Rd w Z 1 A L.length (L.map u32v)) (hl : 0 < L.length) : ∃ g o, A = some ⟨g, o, none⟩ ∧ Z g ∧ g < w.heap.size ∧ ∀ i, i < L.length → w.cell? ⟨g, o + i, none⟩ = some (.int .u32 ((L.getD i 0 : Nat) : Int)) := by
  obtain ⟨g, o, hA, hz, hg, hc⟩ := h.2 (by omega)
  refine ⟨g, o, hA, hz, hg, fun i hi => hc i _ ?_⟩
  rw [List.getElem?_map, List.getElem?_eq_getElem hi, List.getD_eq_getElem?_getD, List.getElem?_eq_getElem hi]
  rfl
theorem OwW.rd {w : World} {base : Nat} {A : Option Addr} {c : Nat} {L : List Nat} (h : OwW w base A c L) : Rd w (fun b => base ≤ b) 1 A L.length (L.map u32v) := Rd.of_own h (fun b hb _ => ((own_form h).choose_spec.choose_spec.2.2.2.1 b (by
  have e := (own_form h).choose_spec.choose_spec.1
  injection e with e1 e2 e3
  rw [← e1]; exact hb)).1)
theorem OwW.lit0 (w : World) (base : Nat) (hb : base ≤ w.heap.size) : OwW (w.alloc (.cells #[] 76)) base (some ⟨w.heap.size, 0, none⟩) 0 [] :=
  World.ownsRow_lit (base := base) (e := 76) (size := 1) w #[] 0 hb (by simp [maxLen]) (by simp)
theorem OwW.lit8 (w : World) (base : Nat) (u : V8) (hb : base ≤ w.heap.size) : OwW (w.alloc (.cells #[.int .u32 (u.a : Int), .int .u32 (u.b : Int), .int .u32 (u.c : Int), .int .u32 (u.d : Int), .int .u32 (u.e : Int), .int .u32 (u.f : Int), .int .u32 (u.g : Int), .int .u32 (u.h : Int)] 76)) base (some ⟨w.heap.size, 0, none⟩) 8 u.l :=
  World.ownsRow_lit (base := base) (e := 76) (size := 1) w #[.int .u32 (u.a : Int), .int .u32 (u.b : Int), .int .u32 (u.c : Int), .int .u32 (u.d : Int), .int .u32 (u.e : Int), .int .u32 (u.f : Int), .int .u32 (u.g : Int), .int .u32 (u.h : Int)] 8 hb (by simp [maxLen]) (by simp)
theorem ch_u32 {e f g : Nat} (he : e < W32) (hf : f < W32) (hg : g < W32) : ∃ n1 n0 n2 : Nat, bits .and .u32 (e : Int) (f : Int) = (n1 : Int) ∧ IntKind.u32.wrap (4294967295 - (e : Int)) = (n0 : Int) ∧ bits .and .u32 (n0 : Int) (g : Int) = (n2 : Int) ∧ bits .or .u32 (n1 : Int) (n2 : Int) = ((chF e f g : Nat) : Int) := by
  refine ⟨e &&& f, 4294967295 - e, (4294967295 - e) &&& g, u32_and_nat e f he hf, ?_, u32_and_nat _ g (by unfold W32 at he; omega) hg, ?_⟩
  · have h2 : (4294967295 - (e : Int)) = ((4294967295 - e : Nat) : Int) := by unfold W32 at he; omega
    rw [h2, wrap_u32, Nat.mod_eq_of_lt (by unfold W32; omega)]
  · rw [ch_or he]
    exact u32_or_nat _ _ (and_lt he) (Nat.lt_of_le_of_lt Nat.and_le_right hg)
theorem maj_u32 {a b c : Nat} (ha : a < W32) (hb : b < W32) (hc : c < W32) : ∃ n1 n2 n3 n4 : Nat, bits .and .u32 (a : Int) (b : Int) = (n1 : Int) ∧ bits .and .u32 (a : Int) (c : Int) = (n2 : Int) ∧ bits .or .u32 (n1 : Int) (n2 : Int) = (n3 : Int) ∧ bits .and .u32 (b : Int) (c : Int) = (n4 : Int) ∧ bits .or .u32 (n3 : Int) (n4 : Int) = ((majF a b c : Nat) : Int) := by
  refine ⟨a &&& b, a &&& c, (a &&& b) ||| (a &&& c), b &&& c, u32_and_nat a b ha hb, u32_and_nat a c ha hc, u32_or_nat _ _ (and_lt ha) (and_lt ha), u32_and_nat b c hb hc, ?_⟩
  rw [maj_or]
  exact u32_or_nat _ _ (Nat.or_lt_two_pow (n := 32) (and_lt ha) (and_lt ha)) (and_lt hb)
theorem wpList_append_w {w : World} {ops : Array Oper} {rest : List Oper} {o : Oper} {a : Act} {Q : Exit → Act → World → Prop} (hgd : o.guard = none) (s x : Operand)
    (ho : o.op = .call { callee := .builtin .append, args := #[s, x], argTypes := #[115, 115] })
    {base : Nat} {A B : Option Addr} {c d n m : Nat} {L M : List Nat} {Z : Nat → Prop} (hn : n = L.length) (hm : m = M.length) (hs : a.eval s = .slice A n c) (hown : OwW w base A c L) (hx : a.eval x = .slice B m d) (hr : Rd w Z 1 B M.length (M.map u32v))
    (hsum : L.length + M.length ≤ 1099511627776) (hbase : base ≤ w.heap.size)
    (h : ∀ (A' : Option Addr) (c' : Nat) (w' : World), OwW w' base A' c' (L ++ M) → Below base w w' → w.grownBy w' (Value.slice A n c).ownBlock → wpList Tryz.prog ops Q rest (a.put o.dst (.slice A' (n + m) c')) w') : wpList Tryz.prog ops Q (o :: rest) a w := by
  subst hn hm
  obtain ⟨i0, hi0, hz0, hz1, hz2⟩ := info_parts u32_info
  refine wpList_append_any w hgd s x _ ho base 76 i0 _ 1 4 Tryz.underlying115 hi0 hz0 hz1 hz2 rfl (by omega) (.slice A L.length c) L.length (L.map u32v) hs hown Z B M.length d (M.map u32v) hx hr (fun u hu => by obtain ⟨y, _, rfl⟩ := List.mem_map.1 hu; rfl) (by simp only [maxLen]; omega) (by omega) hbase ?_
  intro v' w' h1 h2 h3
  obtain ⟨A', c', rfl, _⟩ := own_form h1
  refine h A' c' w' ?_ (grown_below h2 hbase (fun g e => (World.ownsRow.lt hown g e).1)) h2
  unfold OwW
  rw [List.length_append, List.map_append]
  exact h1
theorem RdW.lit1 (w : World) (x : Nat) : Rd (w.alloc (.cells #[.int .u32 (x : Int)] 76)) (fun b => w.heap.size ≤ b) 1 (some ⟨w.heap.size, 0, none⟩) [x].length ([x].map u32v) := Rd.lit (w := w) (t := 76) (size := 1) (n := 1) (xs := [.int .u32 (x : Int)]) rfl rfl rfl
theorem schedI_step (b : List UInt8) (i : Nat) (h : 16 ≤ i) : schedI b (i + 1) = schedI b i ++ [((schedI b i).getD (i - 16) 0 + (schedI b i).getD (i - 7) 0 + smS0 ((schedI b i).getD (i - 15) 0) + smS1 ((schedI b i).getD (i - 2) 0)) % W32] := by
  rw [schedI, if_neg (by omega)]
theorem schedI_low (b : List UInt8) (i : Nat) (h : i < 16) : schedI b (i + 1) = schedI b i ++ [wordB b i] := by
  rw [schedI, if_pos h]
theorem right_l (x a : Nat) (z : Int) (hz : z = (a : Int)) (hx : x < W32) (ha : a ≤ 32) (w : World) : Calls Tryz.prog 93 #[.int .u32 (x : Int), .int .i64 z] w fun e w' => e = .returned (.int .u32 (rotr x a : Int)) ∧ w = w' := by
  subst hz
  exact right_any x a hx ha w
theorem down_l (x a m : Nat) (z : Int) (hz : z = (a : Int)) (hm : 2 ^ a = m) (hx : x < W32) (ha : a ≤ 32) (w : World) : Calls Tryz.prog 94 #[.int .u32 (x : Int), .int .i64 z] w fun e w' => e = .returned (.int .u32 ((x / m : Nat) : Int)) ∧ w = w' := by
  subst hz hm
  exact down_any x a hx ha w
theorem xor3_u32 {a b c : Nat} (ha : a < W32) (hb : b < W32) (hc : c < W32) : ∃ e : Nat, bits .xor .u32 (a : Int) (b : Int) = (e : Int) ∧ bits .xor .u32 (e : Int) (c : Int) = ((a ^^^ b ^^^ c : Nat) : Int) :=
  ⟨a ^^^ b, xor_u32 ha hb, xor_u32 (xor_lt ha hb) hc⟩

set_option maxRecDepth 100000 in
set_option maxHeartbeats 4000000 in
theorem blockR_any (A1 A2 A3 : Option Addr) (c1 c2 c3 : Nat) (v : V8) (b : List UInt8) (Z1 Z2 Z3 : Nat → Prop) (w : World) (h1 : Rd w Z1 1 A1 v.l.length (v.l.map u32v)) (h2 : Rd w Z2 1 A2 rootsK.length (rootsK.map u32v)) (h3 : By w Z3 A3 b) (hb : b.length = 64) (hv : v.ok) :
    Calls Tryz.prog 78 #[.slice A1 8 c1, .slice A2 64 c2, .slice A3 64 c3] w fun e w' => ∃ (A : Option Addr) (c : Nat) (L : List Nat), e = .returned (.slice A L.length c) ∧ Hid (L = (compress v b).l) ∧ OwW w' w.heap.size A c L ∧ Below w.heap.size w w' := by
  obtain ⟨ab, ao, hA, _, hab⟩ := h3.some_of (by omega)
  subst hA
  have HH := Lib.hid h3
  have HB64 := Lib.hid hb
  have H1 := Lib.hid h1
  have H2 := Lib.hid h2
  have HV := Lib.hid hv
  clear h1 h2 h3 hb hv
  go_enter Tryz.func78, Tryz.ntmps78
  go_wp2_with fail
  go_loopw [7, 8] (fun lv iv wr => ∃ (i : Nat) (A : Option Addr) (c : Nat) (L : List Nat), i ≤ 16 ∧ iv = .int .i64 (i : Int) ∧ lv = .slice A L.length c ∧ OwW wr w.heap.size A c L ∧ Hid (L = schedI b i) ∧ Below w.heap.size w wr) (fun _ iv _ => 16 - (intOf iv).toNat)
  case atStart => exact ⟨0, none, 0, [], Nat.zero_le _, rfl, rfl, OwW.nil _ _, Lib.hid rfl, Below.refl _ _⟩
  case round =>
    obtain ⟨i, A, c, L, hi, rfl, rfl, hown, hL, hbw⟩ := hrel
    have hLl : L.length ≤ 16 := by rw [hL.out, schedI_len]; exact hi
    by_cases hlt : i < 16
    · have hlti : (i : Int) < 16 := by omega
      obtain ⟨q, hq⟩ : ∃ q, q = 4 * i := ⟨_, rfl⟩
      have hw4 : IntKind.i64.wrap (4 * (i : Int)) = (q : Int) := by rw [IntWalk.i64_in _ ⟨by omega, by omega⟩]; omega
      have HQ := Lib.hid hq
      have hq60 : q ≤ 60 := by omega
      clear hq
      go_wp2_with fail
      go_loopw [9, 10] (fun xv kv w2 => ∃ (k x : Nat), k ≤ 4 ∧ kv = .int .i64 (k : Int) ∧ xv = .int .u32 (x : Int) ∧ Hid (x = wordP b i k) ∧ w2 = wr) (fun _ kv _ => 4 - (intOf kv).toNat)
      case atStart => exact ⟨0, 0, Nat.zero_le _, rfl, rfl, Lib.hid rfl, rfl⟩
      case round =>
        obtain ⟨k, x, hk, rfl, rfl, hx, rfl⟩ := hrel
        by_cases hk4 : k < 4
        · have hx24 : x < 16777216 := by
            rw [hx.out]
            have := wordP_lt b i k
            have h2 : 256 ^ k ≤ 256 ^ 3 := Nat.pow_le_pow_right (by omega) (by omega)
            omega
          have hkl : (k : Int) < 4 := by omega
          have hw5 : IntKind.i64.wrap ((q : Int) + (k : Int)) = ((q + k : Nat) : Int) := by rw [IntWalk.i64_in _ ⟨by omega, by omega⟩]; omega
          have hby := HH.out.below hbw
          obtain ⟨g', o', e9, _, hgl, cb⟩ := Rd.atm (k := q + k) hby (by have := HB64.out; omega)
          injection e9 with e9
          injection e9 with e9 e10
          subst e9 e10
          obtain ⟨bt, hbt⟩ : ∃ bt, bt = b.getD (4 * i + k) 0 := ⟨_, rfl⟩
          have hbt2 : b[q + k]'(by have := HB64.out; omega) = bt := by rw [hbt, ← HQ.out, List.getD_eq_getElem?_getD, List.getElem?_eq_getElem (by have := HB64.out; omega)]; rfl
          rw [hbt2] at cb
          have cb' : wr.cell? ⟨ab, ao + (q + k), none⟩ = some (.int .u8 (bt.toNat : Int)) := cb
          have hb8 := bt.toNat_lt
          have HZX : Hid (x * 256 + bt.toNat = wordP b i (k + 1)) := Lib.hid (by rw [wordP, ← hx.out, ← hbt])
          have hcv : IntKind.u32.wrap (bt.toNat : Int) = (bt.toNat : Int) := by rw [wrap_u32, Nat.mod_eq_of_lt (by unfold W32; omega)]
          clear hbt hbt2 cb hby
          go_wp2_with fail
          go_roundw
          case rel => exact ⟨k + 1, x * 256 + bt.toNat, hk4, by go_num, by simp, HZX, trivial⟩
          case measure => simp [intOf]; omega
        · have e4 : k = 4 := by omega
          have hx4 : Hid (x = wordB b i) := Lib.hid (by rw [hx.out, e4, wordP_all])
          have hk4' : ¬ (k : Int) < 4 := by omega
          have hba : Below wr.heap.size wr (wr.alloc (.cells #[.int .u32 (x : Int)] 76)) := (Below.refl _ _).alloc (Nat.le_refl _) _
          have hoa := hown.below hba
          have hbw2 := hbw.trans (hba.mono hbw.size)
          have hsz2 := hbw2.size
          have hli := RdW.lit1 wr x
          clear hx
          go_wp2_with (at_builtin; refine wpList_append_w rfl (.tmp 44) (.tmp 46) rfl rfl rfl rfl hoa rfl hli (by simp only [List.length_singleton]; omega) hsz2 ?_; intro A5 c5 w5 ho5 hb5 _; have hb5' := hbw2.trans hb5)
          have HN : Hid (L ++ [x] = schedI b (i + 1)) := Lib.hid (by rw [schedI_low b i hlt, hL.out, hx4.out])
          rw [show L.length + 1 = (L ++ [x]).length by simp]
          go_roundw
          case rel => exact ⟨i + 1, A5, c5, L ++ [x], hlt, by go_num, rfl, ho5, HN, hb5'⟩
          case measure => simp [intOf]; omega
    · have hi16 : ¬ (i : Int) < 16 := by omega
      have HL16 : Hid (L = schedI b 16) := Lib.hid (by rw [hL.out, show i = 16 by omega])
      clear hL
      go_wp2_with fail
      clear hLl
      rename World => wo
      clear hlt hi
      go_loopw [7, 11] (fun lv iv wr => ∃ (i : Nat) (A : Option Addr) (c : Nat) (L : List Nat), 16 ≤ i ∧ i ≤ 64 ∧ iv = .int .i64 (i : Int) ∧ lv = .slice A L.length c ∧ OwW wr w.heap.size A c L ∧ Hid (L = schedI b i) ∧ Below w.heap.size w wr) (fun _ iv _ => 64 - (intOf iv).toNat)
      case atStart => exact ⟨16, A, c, L, Nat.le_refl _, by omega, rfl, rfl, hown, HL16, hbw⟩
      case round =>
        clear hown HL16 hbw
        obtain ⟨i, A, c, L, hi, hi2, rfl, rfl, hown, hL, hbw⟩ := hrel
        have hLl : L.length ≤ 64 := by rw [hL.out, schedI_len]; exact hi2
        have hLg : i ≤ L.length := by rw [hL.out, schedI_len]; omega
        by_cases hlt : i < 64
        · have hlti : (i : Int) < 64 := by omega
          obtain ⟨g, hA, _, hgl⟩ := hown.at_ (by omega)
          subst hA
          obtain ⟨i15, hi15⟩ : ∃ i15, i15 = i - 15 := ⟨_, rfl⟩
          have hw15 : IntKind.i64.wrap ((i : Int) - 15) = (i15 : Int) := by rw [IntWalk.i64_in _ ⟨by omega, by omega⟩]; omega
          have n15 : i15 < L.length := by omega
          obtain ⟨p15, hp15⟩ : ∃ p, p = L.getD i15 0 := ⟨_, rfl⟩
          have lp15 : p15 < W32 := by rw [hp15, hL.out]; exact sched_lt_at b i i15
          have HP15 : Hid (p15 = (schedI b i).getD (i - 15) 0) := Lib.hid (by rw [hp15, hL.out, hi15])
          have Hi15 : Hid (L.getD i15 0 = p15) := Lib.hid hp15.symm
          clear hp15 hi15
          obtain ⟨i2, hi2⟩ : ∃ i2, i2 = i - 2 := ⟨_, rfl⟩
          have hw2 : IntKind.i64.wrap ((i : Int) - 2) = (i2 : Int) := by rw [IntWalk.i64_in _ ⟨by omega, by omega⟩]; omega
          have n2 : i2 < L.length := by omega
          obtain ⟨p2, hp2⟩ : ∃ p, p = L.getD i2 0 := ⟨_, rfl⟩
          have lp2 : p2 < W32 := by rw [hp2, hL.out]; exact sched_lt_at b i i2
          have HP2 : Hid (p2 = (schedI b i).getD (i - 2) 0) := Lib.hid (by rw [hp2, hL.out, hi2])
          have Hi2 : Hid (L.getD i2 0 = p2) := Lib.hid hp2.symm
          clear hp2 hi2
          obtain ⟨i16, hi16⟩ : ∃ i16, i16 = i - 16 := ⟨_, rfl⟩
          have hw16 : IntKind.i64.wrap ((i : Int) - 16) = (i16 : Int) := by rw [IntWalk.i64_in _ ⟨by omega, by omega⟩]; omega
          have n16 : i16 < L.length := by omega
          obtain ⟨p16, hp16⟩ : ∃ p, p = L.getD i16 0 := ⟨_, rfl⟩
          have lp16 : p16 < W32 := by rw [hp16, hL.out]; exact sched_lt_at b i i16
          have HP16 : Hid (p16 = (schedI b i).getD (i - 16) 0) := Lib.hid (by rw [hp16, hL.out, hi16])
          have Hi16 : Hid (L.getD i16 0 = p16) := Lib.hid hp16.symm
          clear hp16 hi16
          obtain ⟨i7, hi7⟩ : ∃ i7, i7 = i - 7 := ⟨_, rfl⟩
          have hw7 : IntKind.i64.wrap ((i : Int) - 7) = (i7 : Int) := by rw [IntWalk.i64_in _ ⟨by omega, by omega⟩]; omega
          have n7 : i7 < L.length := by omega
          obtain ⟨p7, hp7⟩ : ∃ p, p = L.getD i7 0 := ⟨_, rfl⟩
          have lp7 : p7 < W32 := by rw [hp7, hL.out]; exact sched_lt_at b i i7
          have HP7 : Hid (p7 = (schedI b i).getD (i - 7) 0) := Lib.hid (by rw [hp7, hL.out, hi7])
          have Hi7 : Hid (L.getD i7 0 = p7) := Lib.hid hp7.symm
          clear hp7 hi7
          have HO := Lib.hid hown
          have m15 : (i15 : Int) < (L.length : Int) := by omega
          have m2 : (i2 : Int) < (L.length : Int) := by omega
          have m16 : (i16 : Int) < (L.length : Int) := by omega
          have m7 : (i7 : Int) < (L.length : Int) := by omega
          have HA1 := Lib.hid (fun w => right_l p15 7 7 rfl lp15 (by omega) w)
          have HB1 := Lib.hid (fun w => right_l p15 18 18 rfl lp15 (by omega) w)
          have HC1 := Lib.hid (fun w => down_l p15 3 8 3 rfl rfl lp15 (by omega) w)
          obtain ⟨e1, x1, y1⟩ := xor3_u32 (rotr_lt lp15 (by omega : 7 ≤ 32)) (rotr_lt lp15 (by omega : 18 ≤ 32)) (Nat.lt_of_le_of_lt (Nat.div_le_self p15 8) lp15)
          rw [show rotr p15 7 ^^^ rotr p15 18 ^^^ p15 / 8 = smS0 p15 from rfl] at y1
          generalize rotr p15 7 = ra1 at x1 HA1
          generalize rotr p15 18 = rb1 at x1 HB1
          generalize p15 / 8 = rc1 at y1 HC1
          obtain ⟨s1, hs1⟩ : ∃ s, s = smS0 p15 := ⟨_, rfl⟩
          rw [← hs1] at y1
          have HS1 := Lib.hid hs1
          clear hs1
          have HA2 := Lib.hid (fun w => right_l p2 17 17 rfl lp2 (by omega) w)
          have HB2 := Lib.hid (fun w => right_l p2 19 19 rfl lp2 (by omega) w)
          have HC2 := Lib.hid (fun w => down_l p2 10 1024 10 rfl rfl lp2 (by omega) w)
          obtain ⟨e2, x2, y2⟩ := xor3_u32 (rotr_lt lp2 (by omega : 17 ≤ 32)) (rotr_lt lp2 (by omega : 19 ≤ 32)) (Nat.lt_of_le_of_lt (Nat.div_le_self p2 1024) lp2)
          rw [show rotr p2 17 ^^^ rotr p2 19 ^^^ p2 / 1024 = smS1 p2 from rfl] at y2
          generalize rotr p2 17 = ra2 at x2 HA2
          generalize rotr p2 19 = rb2 at x2 HB2
          generalize p2 / 1024 = rc2 at y2 HC2
          obtain ⟨s2, hs2⟩ : ∃ s, s = smS1 p2 := ⟨_, rfl⟩
          rw [← hs2] at y2
          have HS2 := Lib.hid hs2
          clear hs2
          clear hown
          go_wp2_with fail
          refine wp_region_p [(0, true), (1, true), (2, true), (3, true), (4, true), (5, true), (6, true), (7, true), (8, true), (9, true), (10, true), (11, true)] (fun W => Below wr.heap.size wr W) (by kernel_rfl) (by kernel_rfl) ?_
          simp only [List.map_cons, List.map_nil, List.filterMap_cons, List.filterMap_nil, List.getElem?_cons_zero, List.getElem?_cons_succ, List.length_cons, List.length_nil, Nat.zero_add, Nat.reduceAdd, List.drop_succ_cons, List.drop_zero]
          refine mx_move _ (by kernel_rfl) rfl ⟨_, (by ((try simp [go_sem]); (try rfl); done)), _, (by (simp only [Act.put, List.setIfInBounds_toArray, List.set_cons_zero, List.set_cons_succ]; rfl)), ?_⟩
          refine mx_move _ (by kernel_rfl) rfl ⟨_, (by ((try simp [go_sem]); (try rfl); done)), _, (by (simp only [Act.put, List.setIfInBounds_toArray, List.set_cons_zero, List.set_cons_succ]; rfl)), ?_⟩
          refine mx_val (by kernel_rfl) ⟨_, (by (intro w' hC; clear hC; (try go_simp); (try with_reducible rfl); done)), _, (by (simp only [Act.put, List.setIfInBounds_toArray, List.set_cons_zero, List.set_cons_succ]; rfl)), ?_⟩
          refine mx_val (by kernel_rfl) ⟨_, (by (intro w' hC; clear hC; (try go_simp); (try with_reducible rfl); done)), _, (by (simp only [Act.put, List.setIfInBounds_toArray, List.set_cons_zero, List.set_cons_succ]; rfl)), ?_⟩
          refine mx_val (by kernel_rfl) ⟨_, (by (intro w' hC; (have q := (HO.out.below hC).cell n15; rw [Hi15.out] at q); clear hC; (try go_simp); (try with_reducible rfl); done)), _, (by (simp only [Act.put, List.setIfInBounds_toArray, List.set_cons_zero, List.set_cons_succ]; rfl)), ?_⟩
          refine mx_move _ (by kernel_rfl) rfl ⟨_, (by ((try simp [go_sem]); (try rfl); done)), _, (by (simp only [Act.put, List.setIfInBounds_toArray, List.set_cons_zero, List.set_cons_succ]; rfl)), ?_⟩
          refine mx_move _ (by kernel_rfl) rfl ⟨_, (by ((try simp [go_sem]); (try rfl); done)), _, (by (simp only [Act.put, List.setIfInBounds_toArray, List.set_cons_zero, List.set_cons_succ]; rfl)), ?_⟩
          refine mx_val (by kernel_rfl) ⟨_, (by (intro w' hC; clear hC; (try go_simp); (try with_reducible rfl); done)), _, (by (simp only [Act.put, List.setIfInBounds_toArray, List.set_cons_zero, List.set_cons_succ]; rfl)), ?_⟩
          refine mx_val (by kernel_rfl) ⟨_, (by (intro w' hC; clear hC; (try go_simp); (try with_reducible rfl); done)), _, (by (simp only [Act.put, List.setIfInBounds_toArray, List.set_cons_zero, List.set_cons_succ]; rfl)), ?_⟩
          refine mx_val (by kernel_rfl) ⟨_, (by (intro w' hC; (have q := (HO.out.below hC).cell n2; rw [Hi2.out] at q); clear hC; (try go_simp); (try with_reducible rfl); done)), _, (by (simp only [Act.put, List.setIfInBounds_toArray, List.set_cons_zero, List.set_cons_succ]; rfl)), ?_⟩
          refine mx_assign _ (by kernel_rfl) rfl ⟨_, (by ((try simp [go_sem]); (try rfl); done)), _, (by (simp only [Act.put, List.setIfInBounds_toArray, List.set_cons_zero, List.set_cons_succ]; rfl)), ?_⟩
          refine mx_assign _ (by kernel_rfl) rfl ⟨_, (by ((try simp [go_sem]); (try rfl); done)), _, (by (simp only [Act.put, List.setIfInBounds_toArray, List.set_cons_zero, List.set_cons_succ]; rfl)), ?_⟩
          refine mx_end ((Below.refl _ _).drew) ?_
          go_wp2_with fail
          refine (HA1.out _).mono ?_
          rintro e w1 ⟨rfl, rfl⟩
          go_wp2_with fail
          refine (HB1.out _).mono ?_
          rintro e w1 ⟨rfl, rfl⟩
          go_wp2_with fail
          refine (HC1.out _).mono ?_
          rintro e w1 ⟨rfl, rfl⟩
          go_wp2_with fail
          refine (HA2.out _).mono ?_
          rintro e w1 ⟨rfl, rfl⟩
          go_wp2_with fail
          refine (HB2.out _).mono ?_
          rintro e w1 ⟨rfl, rfl⟩
          go_wp2_with fail
          refine (HC2.out _).mono ?_
          rintro e w1 ⟨rfl, rfl⟩
          go_wp2_with fail
          have hbd : Below wr.heap.size wr wr.drew := (Below.refl _ _).drew
          have HOQ := Lib.hid (HO.out.below hbd)
          have hbq := hbw.trans (hbd.mono hbw.size)
          have hgq := Nat.lt_of_lt_of_le hgl hbd.size
          clear HO hbw hgl hbd
          generalize wr.drew = wq at *
          obtain ⟨t1, ht1⟩ : ∃ t, t = (p16 + s1) % W32 := ⟨_, rfl⟩
          obtain ⟨t2, ht2⟩ : ∃ t, t = (t1 + p7) % W32 := ⟨_, rfl⟩
          obtain ⟨t3, ht3⟩ : ∃ t, t = (t2 + s2) % W32 := ⟨_, rfl⟩
          have v1 := add_u32 p16 s1
          have v2 := add_u32 t1 p7
          have v3 := add_u32 t2 s2
          rw [← ht1] at v1
          rw [← ht2] at v2
          rw [← ht3] at v3
          have HN : Hid (L ++ [t3] = schedI b (i + 1)) := Lib.hid (by
            rw [schedI_step b i hi, hL.out, ← HP16.out, ← HP7.out, ← HP15.out, ← HP2.out, ← HS1.out, ← HS2.out, ht3, ht2, ht1]
            congr 2
            unfold W32
            omega)
          clear ht1 ht2 ht3
          refine wp_region_p [(0, true), (1, true), (2, true), (3, true), (4, true), (5, true), (6, true), (7, true), (8, true), (9, true), (10, true), (11, true), (12, true), (13, true), (14, true), (15, true), (16, false)] (fun W => Below wq.heap.size wq W) (by kernel_rfl) (by kernel_rfl) ?_
          simp only [List.map_cons, List.map_nil, List.filterMap_cons, List.filterMap_nil, List.getElem?_cons_zero, List.getElem?_cons_succ, List.length_cons, List.length_nil, Nat.zero_add, Nat.reduceAdd, List.drop_succ_cons, List.drop_zero]
          refine mx_move _ (by kernel_rfl) rfl ⟨_, (by ((try simp [go_sem]); (try rfl); done)), _, (by (simp only [Act.put, List.setIfInBounds_toArray, List.set_cons_zero, List.set_cons_succ]; rfl)), ?_⟩
          refine mx_move _ (by kernel_rfl) rfl ⟨_, (by ((try simp [go_sem]); (try rfl); done)), _, (by (simp only [Act.put, List.setIfInBounds_toArray, List.set_cons_zero, List.set_cons_succ]; rfl)), ?_⟩
          refine mx_move _ (by kernel_rfl) rfl ⟨_, (by ((try simp [go_sem]); (try rfl); done)), _, (by (simp only [Act.put, List.setIfInBounds_toArray, List.set_cons_zero, List.set_cons_succ]; rfl)), ?_⟩
          refine mx_val (by kernel_rfl) ⟨_, (by (intro w' hC; clear hC; (try go_simp); (try with_reducible rfl); done)), _, (by (simp only [Act.put, List.setIfInBounds_toArray, List.set_cons_zero, List.set_cons_succ]; rfl)), ?_⟩
          refine mx_val (by kernel_rfl) ⟨_, (by (intro w' hC; clear hC; (try go_simp); (try with_reducible rfl); done)), _, (by (simp only [Act.put, List.setIfInBounds_toArray, List.set_cons_zero, List.set_cons_succ]; rfl)), ?_⟩
          refine mx_val (by kernel_rfl) ⟨_, (by (intro w' hC; (have q := (HOQ.out.below hC).cell n16; rw [Hi16.out] at q); clear hC; (try go_simp); (try with_reducible rfl); done)), _, (by (simp only [Act.put, List.setIfInBounds_toArray, List.set_cons_zero, List.set_cons_succ]; rfl)), ?_⟩
          refine mx_move _ (by kernel_rfl) rfl ⟨_, (by ((try simp [go_sem]); (try rfl); done)), _, (by (simp only [Act.put, List.setIfInBounds_toArray, List.set_cons_zero, List.set_cons_succ]; rfl)), ?_⟩
          refine mx_val (by kernel_rfl) ⟨_, (by (intro w' hC; clear hC; (try go_simp); (try with_reducible rfl); done)), _, (by (simp only [Act.put, List.setIfInBounds_toArray, List.set_cons_zero, List.set_cons_succ]; rfl)), ?_⟩
          refine mx_move _ (by kernel_rfl) rfl ⟨_, (by ((try simp [go_sem]); (try rfl); done)), _, (by (simp only [Act.put, List.setIfInBounds_toArray, List.set_cons_zero, List.set_cons_succ]; rfl)), ?_⟩
          refine mx_move _ (by kernel_rfl) rfl ⟨_, (by ((try simp [go_sem]); (try rfl); done)), _, (by (simp only [Act.put, List.setIfInBounds_toArray, List.set_cons_zero, List.set_cons_succ]; rfl)), ?_⟩
          refine mx_val (by kernel_rfl) ⟨_, (by (intro w' hC; clear hC; (try go_simp); (try with_reducible rfl); done)), _, (by (simp only [Act.put, List.setIfInBounds_toArray, List.set_cons_zero, List.set_cons_succ]; rfl)), ?_⟩
          refine mx_val (by kernel_rfl) ⟨_, (by (intro w' hC; clear hC; (try go_simp); (try with_reducible rfl); done)), _, (by (simp only [Act.put, List.setIfInBounds_toArray, List.set_cons_zero, List.set_cons_succ]; rfl)), ?_⟩
          refine mx_val (by kernel_rfl) ⟨_, (by (intro w' hC; (have q := (HOQ.out.below hC).cell n7; rw [Hi7.out] at q); clear hC; (try go_simp); (try with_reducible rfl); done)), _, (by (simp only [Act.put, List.setIfInBounds_toArray, List.set_cons_zero, List.set_cons_succ]; rfl)), ?_⟩
          refine mx_val (by kernel_rfl) ⟨_, (by (intro w' hC; clear hC; (try go_simp); (try with_reducible rfl); done)), _, (by (simp only [Act.put, List.setIfInBounds_toArray, List.set_cons_zero, List.set_cons_succ]; rfl)), ?_⟩
          refine mx_move _ (by kernel_rfl) rfl ⟨_, (by ((try simp [go_sem]); (try rfl); done)), _, (by (simp only [Act.put, List.setIfInBounds_toArray, List.set_cons_zero, List.set_cons_succ]; rfl)), ?_⟩
          refine mx_val (by kernel_rfl) ⟨_, (by (intro w' hC; clear hC; (try go_simp); (try with_reducible rfl); done)), _, (by (simp only [Act.put, List.setIfInBounds_toArray, List.set_cons_zero, List.set_cons_succ]; rfl)), ?_⟩
          refine mx_alone ((by repeat (first | exact Below.refl _ _ | refine Below.alloc ?_ (by simp) _ | refine Below.setCell ?_ (by simp) _ | refine Below.drew ?_))) (by kernel_rfl) ⟨_, _, (by (go_simp; first | done | exact ⟨rfl, rfl⟩)), _, (by (simp only [Act.put, List.setIfInBounds_toArray, List.set_cons_zero, List.set_cons_succ]; rfl)), ?_⟩
          refine mx_end (by repeat (first | exact Below.refl _ _ | refine Below.alloc ?_ (by simp) _ | refine Below.setCell ?_ (by simp) _ | refine Below.drew ?_)) ?_
          have hba : Below wq.heap.size wq (wq.alloc (.cells #[.int .u32 (t3 : Int)] 76)).drew := (by repeat (first | exact Below.refl _ _ | refine Below.alloc ?_ (by simp) _ | refine Below.setCell ?_ (by simp) _ | refine Below.drew ?_))
          have hoa := HOQ.out.below hba
          have hbw2 := hbq.trans (hba.mono hbq.size)
          have hsz2 := hbw2.size
          have hli := (RdW.lit1 wq t3).below ((Below.refl _ (wq.alloc (.cells #[.int .u32 (t3 : Int)] 76))).drew)
          go_wp2_with (at_builtin; refine wpList_append_w rfl (.tmp 78) (.tmp 94) rfl rfl rfl rfl hoa rfl hli (by simp only [List.length_singleton]; omega) hsz2 ?_; intro A5 c5 w5 ho5 hb5 _; have hb5' := hbw2.trans hb5)
          rw [show L.length + 1 = (L ++ [t3]).length by simp]
          go_roundw
          case rel => exact ⟨i + 1, A5, c5, L ++ [t3], by omega, hlt, by go_num, rfl, ho5, HN, hb5'⟩
          case measure => simp [intOf]; omega
        · have hi64 : ¬ (i : Int) < 64 := by omega
          have HL64 : Hid (L = schedW b) := Lib.hid (by rw [hL.out, show i = 64 by omega]; rfl)
          clear hL
          obtain ⟨g1, o1, e1, hz1, hg1, hk1⟩ := RdW.at_ H1.out (show 0 < 8 by omega)
          subst e1
          have hrd1 := Lib.hid (H1.out.mono (Z' := fun b => b < w.heap.size) (fun b hb _ => hb))
          obtain ⟨gw, hAw, hbw1, hgw⟩ := hown.at_ (by omega)
          subst hAw
          have HW := Lib.hid hown
          have hba : Below wr.heap.size wr (wr.alloc (.cells #[] 76)) := (Below.refl _ _).alloc (Nat.le_refl _) _
          have hol := OwW.lit0 wr w.heap.size hbw.size
          have hbw2 := hbw.trans (hba.mono hbw.size)
          have hsz2 := hbw2.size
          have hr1 := hrd1.out.below hbw2
          go_wp2_with (at_builtin; refine wpList_append_w rfl (.tmp 96) (.tmp 97) rfl (L := []) (M := v.l) rfl rfl rfl hol rfl hr1 (show 0 + 8 ≤ _ by omega) hsz2 ?_; intro A5 c5 w5 ho5 hb5 hg5)
          have hb5r : Below wr.heap.size wr w5 := hba.trans (grown_below hg5 hba.size (fun g e => by
            have e2 : wr.heap.size = g := by simpa [Value.ownBlock] using e
            omega))
          have HW5 := Lib.hid (HW.out.below hb5r)
          have hw5 := hbw.trans (hb5r.mono hbw.size)
          have HV5 : Hid (OwW w5 w.heap.size A5 c5 v.l) := Lib.hid ho5
          clear ho5 hg5 hb5 hb5r hr1 hsz2 hbw2 hol hba HW
          obtain ⟨g2, o2, e2, hz2, hg2, hk2⟩ := RdW.at_ H2.out (show 0 < 64 by omega)
          subst e2
          have HK1 := Lib.hid hk1
          have HK2 := Lib.hid hk2
          clear hk1 hk2 hown hbw hbw1 hgw HH HB64 hab hi64 hlt hi hi2 hLl hLg hz1 hz2
          have HLL : Hid (L.length = 64) := Lib.hid (by rw [HL64.out]; exact schedI_len b 64)
          go_loopw [16, 17] (fun lv iv wr => ∃ (i : Nat) (A : Option Addr) (c : Nat) (u : V8), i ≤ 64 ∧ iv = .int .i64 (i : Int) ∧ lv = .slice A 8 c ∧ OwW wr w.heap.size A c u.l ∧ Hid (u = rounds b v i) ∧ Below w5.heap.size w5 wr) (fun _ iv _ => 64 - (intOf iv).toNat)
          case atStart => exact ⟨0, A5, c5, v, Nat.zero_le _, rfl, rfl, HV5.out, Lib.hid rfl, Below.refl _ _⟩
          case round =>
            clear HV5
            obtain ⟨i, A, c9, u, hi, rfl, rfl, hown, hu, hbw⟩ := hrel
            by_cases hlt : i < 64
            · have hlti : (i : Int) < 64 := by omega
              obtain ⟨g, hA, _, hgl⟩ := hown.at_ (show 0 < 8 by omega)
              subst hA
              have huo : u.ok := by rw [hu.out]; exact rounds_ok HV.out i
              have hcs : ∀ W, Below wr.heap.size wr W → ∀ k, k < 8 → W.cell? ⟨g, k, none⟩ = some (.int .u32 ((u.l.getD k 0 : Nat) : Int)) := fun W hW k hk => (hown.below hW).cell hk
              have hwr := hw5.trans (hbw.mono hw5.size)
              obtain ⟨kk, hkk⟩ : ∃ kk, kk = rootsK.getD i 0 := ⟨_, rfl⟩
              obtain ⟨ww, hww⟩ : ∃ ww, ww = (schedW b).getD i 0 := ⟨_, rfl⟩
              have HCK : Hid (∀ W, Below wr.heap.size wr W → W.cell? ⟨g2, o2 + i, none⟩ = some (.int .u32 (kk : Int)) ∧ W.cell? ⟨gw, i, none⟩ = some (.int .u32 (ww : Int))) := Lib.hid (fun W hW => ⟨by
                rw [hkk]
                exact cell_later (hwr.trans (hW.mono hwr.size)) (HK2.out i hlt), by
                rw [hww]
                have h9 := ((HW5.out.below hbw).below hW).cell (i := i) (by rw [HLL.out]; exact hlt)
                rw [HL64.out] at h9
                exact h9⟩)
              have hmw : (i : Int) < (L.length : Int) := by have := HLL.out; omega
              have HN0 := Lib.hid (show rounds b v (i + 1) = rnd u kk ww by rw [rounds, ← hu.out, ← hkk, ← hww])
              clear hkk hww hu hown hwr
              obtain ⟨va, vb, vc, vd, ve, vf, vg, vh⟩ := u
              obtain ⟨la, lb, lc, ld, le, lf, lg, lh⟩ := huo
              dsimp only at la lb lc ld le lf lg lh
              have HX : Hid (∀ W, Below wr.heap.size wr W → W.cell? ⟨g, 0, none⟩ = some (.int .u32 (va : Int)) ∧ W.cell? ⟨g, 1, none⟩ = some (.int .u32 (vb : Int)) ∧ W.cell? ⟨g, 2, none⟩ = some (.int .u32 (vc : Int)) ∧ W.cell? ⟨g, 3, none⟩ = some (.int .u32 (vd : Int)) ∧ W.cell? ⟨g, 4, none⟩ = some (.int .u32 (ve : Int)) ∧ W.cell? ⟨g, 5, none⟩ = some (.int .u32 (vf : Int)) ∧ W.cell? ⟨g, 6, none⟩ = some (.int .u32 (vg : Int)) ∧ W.cell? ⟨g, 7, none⟩ = some (.int .u32 (vh : Int))) := Lib.hid (fun W hW => ⟨hcs W hW 0 (by omega), hcs W hW 1 (by omega), hcs W hW 2 (by omega), hcs W hW 3 (by omega), hcs W hW 4 (by omega), hcs W hW 5 (by omega), hcs W hW 6 (by omega), hcs W hW 7 (by omega)⟩)
              clear hcs
              have HA1 := Lib.hid (fun w => right_l ve 6 6 rfl le (by omega) w)
              have HB1 := Lib.hid (fun w => right_l ve 11 11 rfl le (by omega) w)
              have HC1 := Lib.hid (fun w => right_l ve 25 25 rfl le (by omega) w)
              obtain ⟨e1, x1, y1⟩ := xor3_u32 (rotr_lt le (by omega : 6 ≤ 32)) (rotr_lt le (by omega : 11 ≤ 32)) (rotr_lt le (by omega : 25 ≤ 32))
              rw [show rotr ve 6 ^^^ rotr ve 11 ^^^ rotr ve 25 = bigS1 ve from rfl] at y1
              generalize rotr ve 6 = ra1 at x1 HA1
              generalize rotr ve 11 = rb1 at x1 HB1
              generalize rotr ve 25 = rc1 at y1 HC1
              obtain ⟨s1, hs1⟩ : ∃ s, s = bigS1 ve := ⟨_, rfl⟩
              rw [← hs1] at y1
              have HS1 := Lib.hid hs1
              clear hs1
              have HA2 := Lib.hid (fun w => right_l va 2 2 rfl la (by omega) w)
              have HB2 := Lib.hid (fun w => right_l va 13 13 rfl la (by omega) w)
              have HC2 := Lib.hid (fun w => right_l va 22 22 rfl la (by omega) w)
              obtain ⟨e2, x2, y2⟩ := xor3_u32 (rotr_lt la (by omega : 2 ≤ 32)) (rotr_lt la (by omega : 13 ≤ 32)) (rotr_lt la (by omega : 22 ≤ 32))
              rw [show rotr va 2 ^^^ rotr va 13 ^^^ rotr va 22 = bigS0 va from rfl] at y2
              generalize rotr va 2 = ra2 at x2 HA2
              generalize rotr va 13 = rb2 at x2 HB2
              generalize rotr va 22 = rc2 at y2 HC2
              obtain ⟨s2, hs2⟩ : ∃ s, s = bigS0 va := ⟨_, rfl⟩
              rw [← hs2] at y2
              have HS2 := Lib.hid hs2
              clear hs2
              obtain ⟨n1, n0, n2, f1, f2, f3, f4⟩ := ch_u32 le lf lg
              obtain ⟨ch, hch⟩ : ∃ ch, ch = chF ve vf vg := ⟨_, rfl⟩
              rw [← hch] at f4
              obtain ⟨m1, m2, m3, m4, f5, f6, f7, f8, f9⟩ := maj_u32 la lb lc
              obtain ⟨mj, hmj⟩ : ∃ mj, mj = majF va vb vc := ⟨_, rfl⟩
              rw [← hmj] at f9
              have HCH := Lib.hid hch
              have HMJ := Lib.hid hmj
              clear hch hmj la lb lc ld le lf lg lh
              obtain ⟨t1, ht1⟩ : ∃ t, t = (vh + s1) % W32 := ⟨_, rfl⟩
              obtain ⟨t2, ht2⟩ : ∃ t, t = (t1 + ch) % W32 := ⟨_, rfl⟩
              obtain ⟨t3, ht3⟩ : ∃ t, t = (t2 + kk) % W32 := ⟨_, rfl⟩
              obtain ⟨t4, ht4⟩ : ∃ t, t = (t3 + ww) % W32 := ⟨_, rfl⟩
              obtain ⟨t5, ht5⟩ : ∃ t, t = (t4 + s2) % W32 := ⟨_, rfl⟩
              obtain ⟨t6, ht6⟩ : ∃ t, t = (t5 + mj) % W32 := ⟨_, rfl⟩
              obtain ⟨t7, ht7⟩ : ∃ t, t = (vd + t4) % W32 := ⟨_, rfl⟩
              have v1 := add_u32 vh s1
              have v2 := add_u32 t1 ch
              have v3 := add_u32 t2 kk
              have v4 := add_u32 t3 ww
              have v5 := add_u32 t4 s2
              have v6 := add_u32 t5 mj
              have v7 := add_u32 vd t4
              rw [← ht1] at v1
              rw [← ht2] at v2
              rw [← ht3] at v3
              rw [← ht4] at v4
              rw [← ht5] at v5
              rw [← ht6] at v6
              rw [← ht7] at v7
              have HN : Hid ((⟨t6, va, vb, vc, t7, ve, vf, vg⟩ : V8) = rounds b v (i + 1)) := Lib.hid (by
                rw [HN0.out]
                unfold rnd
                dsimp only
                rw [← HS1.out, ← HS2.out, ← HCH.out, ← HMJ.out]
                have e6 : t6 = (vh + s1 + ch + kk + ww + (s2 + mj)) % W32 := by rw [ht6, ht5, ht4, ht3, ht2, ht1]; unfold W32; omega
                have e7 : t7 = (vd + (vh + s1 + ch + kk + ww)) % W32 := by rw [ht7, ht4, ht3, ht2, ht1]; unfold W32; omega
                rw [e6, e7])
              clear ht1 ht2 ht3 ht4 ht5 ht6 ht7 HN0
              have hq : Below wr.heap.size wr wr := Below.refl _ _
              go_wp2_with fail
              refine wp_region_p [(0, true), (1, true), (2, true), (4, true), (5, true), (6, true), (9, true), (10, true), (11, true), (3, false), (7, false), (8, true), (12, false), (13, true)] (fun W => Below wr.heap.size wr W) (by kernel_rfl) (by kernel_rfl) ?_
              simp only [List.map_cons, List.map_nil, List.filterMap_cons, List.filterMap_nil, List.getElem?_cons_zero, List.getElem?_cons_succ, List.length_cons, List.length_nil, Nat.zero_add, Nat.reduceAdd, List.drop_succ_cons, List.drop_zero]
              refine mx_move _ (by kernel_rfl) rfl ⟨_, (by ((try simp [go_sem]); (try rfl); done)), _, (by (simp only [Act.put, List.setIfInBounds_toArray, List.set_cons_zero, List.set_cons_succ]; rfl)), ?_⟩
              refine mx_val (by kernel_rfl) ⟨_, (by (intro w' hC; clear hC; (try go_simp); (try with_reducible rfl); done)), _, (by (simp only [Act.put, List.setIfInBounds_toArray, List.set_cons_zero, List.set_cons_succ]; rfl)), ?_⟩
              refine mx_val (by kernel_rfl) ⟨_, (by (intro w' hC; (obtain ⟨z0, z1, z2, z3, z4, z5, z6, z7⟩ := HX.out _ hC); clear hC; (try go_simp); (try with_reducible rfl); done)), _, (by (simp only [Act.put, List.setIfInBounds_toArray, List.set_cons_zero, List.set_cons_succ]; rfl)), ?_⟩
              refine mx_move _ (by kernel_rfl) rfl ⟨_, (by ((try simp [go_sem]); (try rfl); done)), _, (by (simp only [Act.put, List.setIfInBounds_toArray, List.set_cons_zero, List.set_cons_succ]; rfl)), ?_⟩
              refine mx_val (by kernel_rfl) ⟨_, (by (intro w' hC; clear hC; (try go_simp); (try with_reducible rfl); done)), _, (by (simp only [Act.put, List.setIfInBounds_toArray, List.set_cons_zero, List.set_cons_succ]; rfl)), ?_⟩
              refine mx_val (by kernel_rfl) ⟨_, (by (intro w' hC; (obtain ⟨z0, z1, z2, z3, z4, z5, z6, z7⟩ := HX.out _ hC); clear hC; (try go_simp); (try with_reducible rfl); done)), _, (by (simp only [Act.put, List.setIfInBounds_toArray, List.set_cons_zero, List.set_cons_succ]; rfl)), ?_⟩
              refine mx_move _ (by kernel_rfl) rfl ⟨_, (by ((try simp [go_sem]); (try rfl); done)), _, (by (simp only [Act.put, List.setIfInBounds_toArray, List.set_cons_zero, List.set_cons_succ]; rfl)), ?_⟩
              refine mx_val (by kernel_rfl) ⟨_, (by (intro w' hC; clear hC; (try go_simp); (try with_reducible rfl); done)), _, (by (simp only [Act.put, List.setIfInBounds_toArray, List.set_cons_zero, List.set_cons_succ]; rfl)), ?_⟩
              refine mx_val (by kernel_rfl) ⟨_, (by (intro w' hC; (obtain ⟨z0, z1, z2, z3, z4, z5, z6, z7⟩ := HX.out _ hC); clear hC; (try go_simp); (try with_reducible rfl); done)), _, (by (simp only [Act.put, List.setIfInBounds_toArray, List.set_cons_zero, List.set_cons_succ]; rfl)), ?_⟩
              refine mx_call (hq.drew) (by kernel_rfl) ?_ (HA1.out _) ?_
              · (go_simp; done)
              rintro e w1 ⟨rfl, rfl⟩
              refine ⟨_, rfl, _, (by (simp only [Act.put, List.setIfInBounds_toArray, List.set_cons_zero, List.set_cons_succ]; rfl)), ?_⟩
              refine mx_call (hq.drew) (by kernel_rfl) ?_ (HB1.out _) ?_
              · (go_simp; done)
              rintro e w1 ⟨rfl, rfl⟩
              refine ⟨_, rfl, _, (by (simp only [Act.put, List.setIfInBounds_toArray, List.set_cons_zero, List.set_cons_succ]; rfl)), ?_⟩
              refine mx_val (by kernel_rfl) ⟨_, (by (intro w' hC; clear hC; (try go_simp); (try with_reducible rfl); done)), _, (by (simp only [Act.put, List.setIfInBounds_toArray, List.set_cons_zero, List.set_cons_succ]; rfl)), ?_⟩
              refine mx_call (hq.drew) (by kernel_rfl) ?_ (HC1.out _) ?_
              · (go_simp; done)
              rintro e w1 ⟨rfl, rfl⟩
              refine ⟨_, rfl, _, (by (simp only [Act.put, List.setIfInBounds_toArray, List.set_cons_zero, List.set_cons_succ]; rfl)), ?_⟩
              refine mx_val (by kernel_rfl) ⟨_, (by (intro w' hC; clear hC; (try go_simp); (try with_reducible rfl); done)), _, (by (simp only [Act.put, List.setIfInBounds_toArray, List.set_cons_zero, List.set_cons_succ]; rfl)), ?_⟩
              refine mx_end (hq.drew) ?_
              have hq1 := hq.drew
              clear hq
              generalize wr.drew = wq1 at *
              go_wp2_with fail
              refine wp_region_p [(0, true), (1, true), (2, true), (3, true), (4, true), (5, true), (6, true), (7, true), (8, true), (9, true), (10, true), (11, true), (12, true), (13, true), (14, true), (15, true)] (fun W => Below wr.heap.size wr W) (by kernel_rfl) (by kernel_rfl) ?_
              simp only [List.map_cons, List.map_nil, List.filterMap_cons, List.filterMap_nil, List.getElem?_cons_zero, List.getElem?_cons_succ, List.length_cons, List.length_nil, Nat.zero_add, Nat.reduceAdd, List.drop_succ_cons, List.drop_zero]
              refine mx_move _ (by kernel_rfl) rfl ⟨_, (by ((try simp [go_sem]); (try rfl); done)), _, (by (simp only [Act.put, List.setIfInBounds_toArray, List.set_cons_zero, List.set_cons_succ]; rfl)), ?_⟩
              refine mx_val (by kernel_rfl) ⟨_, (by (intro w' hC; clear hC; (try go_simp); (try with_reducible rfl); done)), _, (by (simp only [Act.put, List.setIfInBounds_toArray, List.set_cons_zero, List.set_cons_succ]; rfl)), ?_⟩
              refine mx_val (by kernel_rfl) ⟨_, (by (intro w' hC; (obtain ⟨z0, z1, z2, z3, z4, z5, z6, z7⟩ := HX.out _ hC); clear hC; (try go_simp); (try with_reducible rfl); done)), _, (by (simp only [Act.put, List.setIfInBounds_toArray, List.set_cons_zero, List.set_cons_succ]; rfl)), ?_⟩
              refine mx_move _ (by kernel_rfl) rfl ⟨_, (by ((try simp [go_sem]); (try rfl); done)), _, (by (simp only [Act.put, List.setIfInBounds_toArray, List.set_cons_zero, List.set_cons_succ]; rfl)), ?_⟩
              refine mx_val (by kernel_rfl) ⟨_, (by (intro w' hC; clear hC; (try go_simp); (try with_reducible rfl); done)), _, (by (simp only [Act.put, List.setIfInBounds_toArray, List.set_cons_zero, List.set_cons_succ]; rfl)), ?_⟩
              refine mx_val (by kernel_rfl) ⟨_, (by (intro w' hC; (obtain ⟨z0, z1, z2, z3, z4, z5, z6, z7⟩ := HX.out _ hC); clear hC; (try go_simp); (try with_reducible rfl); done)), _, (by (simp only [Act.put, List.setIfInBounds_toArray, List.set_cons_zero, List.set_cons_succ]; rfl)), ?_⟩
              refine mx_val (by kernel_rfl) ⟨_, (by (intro w' hC; clear hC; (try go_simp); (try with_reducible rfl); done)), _, (by (simp only [Act.put, List.setIfInBounds_toArray, List.set_cons_zero, List.set_cons_succ]; rfl)), ?_⟩
              refine mx_move _ (by kernel_rfl) rfl ⟨_, (by ((try simp [go_sem]); (try rfl); done)), _, (by (simp only [Act.put, List.setIfInBounds_toArray, List.set_cons_zero, List.set_cons_succ]; rfl)), ?_⟩
              refine mx_val (by kernel_rfl) ⟨_, (by (intro w' hC; clear hC; (try go_simp); (try with_reducible rfl); done)), _, (by (simp only [Act.put, List.setIfInBounds_toArray, List.set_cons_zero, List.set_cons_succ]; rfl)), ?_⟩
              refine mx_val (by kernel_rfl) ⟨_, (by (intro w' hC; (obtain ⟨z0, z1, z2, z3, z4, z5, z6, z7⟩ := HX.out _ hC); clear hC; (try go_simp); (try with_reducible rfl); done)), _, (by (simp only [Act.put, List.setIfInBounds_toArray, List.set_cons_zero, List.set_cons_succ]; rfl)), ?_⟩
              refine mx_val (by kernel_rfl) ⟨_, (by (intro w' hC; clear hC; (try go_simp); (try with_reducible rfl); done)), _, (by (simp only [Act.put, List.setIfInBounds_toArray, List.set_cons_zero, List.set_cons_succ]; rfl)), ?_⟩
              refine mx_move _ (by kernel_rfl) rfl ⟨_, (by ((try simp [go_sem]); (try rfl); done)), _, (by (simp only [Act.put, List.setIfInBounds_toArray, List.set_cons_zero, List.set_cons_succ]; rfl)), ?_⟩
              refine mx_val (by kernel_rfl) ⟨_, (by (intro w' hC; clear hC; (try go_simp); (try with_reducible rfl); done)), _, (by (simp only [Act.put, List.setIfInBounds_toArray, List.set_cons_zero, List.set_cons_succ]; rfl)), ?_⟩
              refine mx_val (by kernel_rfl) ⟨_, (by (intro w' hC; (obtain ⟨z0, z1, z2, z3, z4, z5, z6, z7⟩ := HX.out _ hC); clear hC; (try go_simp); (try with_reducible rfl); done)), _, (by (simp only [Act.put, List.setIfInBounds_toArray, List.set_cons_zero, List.set_cons_succ]; rfl)), ?_⟩
              refine mx_val (by kernel_rfl) ⟨_, (by (intro w' hC; clear hC; (try go_simp); (try with_reducible rfl); done)), _, (by (simp only [Act.put, List.setIfInBounds_toArray, List.set_cons_zero, List.set_cons_succ]; rfl)), ?_⟩
              refine mx_val (by kernel_rfl) ⟨_, (by (intro w' hC; clear hC; (try go_simp); (try with_reducible rfl); done)), _, (by (simp only [Act.put, List.setIfInBounds_toArray, List.set_cons_zero, List.set_cons_succ]; rfl)), ?_⟩
              refine mx_end (hq1.drew) ?_
              have hq2 := hq1.drew
              clear hq1
              generalize wq1.drew = wq2 at *
              go_wp2_with fail
              refine wp_region_p [(0, true), (1, true), (2, true), (3, true), (4, true), (5, true), (6, true), (7, true), (8, true), (9, true), (10, true), (11, true), (12, true), (13, true), (14, true), (15, true), (16, true)] (fun W => Below wr.heap.size wr W) (by kernel_rfl) (by kernel_rfl) ?_
              simp only [List.map_cons, List.map_nil, List.filterMap_cons, List.filterMap_nil, List.getElem?_cons_zero, List.getElem?_cons_succ, List.length_cons, List.length_nil, Nat.zero_add, Nat.reduceAdd, List.drop_succ_cons, List.drop_zero]
              refine mx_move _ (by kernel_rfl) rfl ⟨_, (by ((try simp [go_sem]); (try rfl); done)), _, (by (simp only [Act.put, List.setIfInBounds_toArray, List.set_cons_zero, List.set_cons_succ]; rfl)), ?_⟩
              refine mx_val (by kernel_rfl) ⟨_, (by (intro w' hC; clear hC; (try go_simp); (try with_reducible rfl); done)), _, (by (simp only [Act.put, List.setIfInBounds_toArray, List.set_cons_zero, List.set_cons_succ]; rfl)), ?_⟩
              refine mx_val (by kernel_rfl) ⟨_, (by (intro w' hC; (obtain ⟨z0, z1, z2, z3, z4, z5, z6, z7⟩ := HX.out _ hC); clear hC; (try go_simp); (try with_reducible rfl); done)), _, (by (simp only [Act.put, List.setIfInBounds_toArray, List.set_cons_zero, List.set_cons_succ]; rfl)), ?_⟩
              refine mx_move _ (by kernel_rfl) rfl ⟨_, (by ((try simp [go_sem]); (try rfl); done)), _, (by (simp only [Act.put, List.setIfInBounds_toArray, List.set_cons_zero, List.set_cons_succ]; rfl)), ?_⟩
              refine mx_val (by kernel_rfl) ⟨_, (by (intro w' hC; clear hC; (try go_simp); (try with_reducible rfl); done)), _, (by (simp only [Act.put, List.setIfInBounds_toArray, List.set_cons_zero, List.set_cons_succ]; rfl)), ?_⟩
              refine mx_move _ (by kernel_rfl) rfl ⟨_, (by ((try simp [go_sem]); (try rfl); done)), _, (by (simp only [Act.put, List.setIfInBounds_toArray, List.set_cons_zero, List.set_cons_succ]; rfl)), ?_⟩
              refine mx_val (by kernel_rfl) ⟨_, (by (intro w' hC; clear hC; (try go_simp); (try with_reducible rfl); done)), _, (by (simp only [Act.put, List.setIfInBounds_toArray, List.set_cons_zero, List.set_cons_succ]; rfl)), ?_⟩
              refine mx_move _ (by kernel_rfl) rfl ⟨_, (by ((try simp [go_sem]); (try rfl); done)), _, (by (simp only [Act.put, List.setIfInBounds_toArray, List.set_cons_zero, List.set_cons_succ]; rfl)), ?_⟩
              refine mx_move _ (by kernel_rfl) rfl ⟨_, (by ((try simp [go_sem]); (try rfl); done)), _, (by (simp only [Act.put, List.setIfInBounds_toArray, List.set_cons_zero, List.set_cons_succ]; rfl)), ?_⟩
              refine mx_val (by kernel_rfl) ⟨_, (by (intro w' hC; clear hC; (try go_simp); (try with_reducible rfl); done)), _, (by (simp only [Act.put, List.setIfInBounds_toArray, List.set_cons_zero, List.set_cons_succ]; rfl)), ?_⟩
              refine mx_val (by kernel_rfl) ⟨_, (by (intro w' hC; (obtain ⟨z8, z9⟩ := HCK.out _ hC); clear hC; (try go_simp); (try with_reducible rfl); done)), _, (by (simp only [Act.put, List.setIfInBounds_toArray, List.set_cons_zero, List.set_cons_succ]; rfl)), ?_⟩
              refine mx_val (by kernel_rfl) ⟨_, (by (intro w' hC; clear hC; (try go_simp); (try with_reducible rfl); done)), _, (by (simp only [Act.put, List.setIfInBounds_toArray, List.set_cons_zero, List.set_cons_succ]; rfl)), ?_⟩
              refine mx_move _ (by kernel_rfl) rfl ⟨_, (by ((try simp [go_sem]); (try rfl); done)), _, (by (simp only [Act.put, List.setIfInBounds_toArray, List.set_cons_zero, List.set_cons_succ]; rfl)), ?_⟩
              refine mx_move _ (by kernel_rfl) rfl ⟨_, (by ((try simp [go_sem]); (try rfl); done)), _, (by (simp only [Act.put, List.setIfInBounds_toArray, List.set_cons_zero, List.set_cons_succ]; rfl)), ?_⟩
              refine mx_val (by kernel_rfl) ⟨_, (by (intro w' hC; clear hC; (try go_simp); (try with_reducible rfl); done)), _, (by (simp only [Act.put, List.setIfInBounds_toArray, List.set_cons_zero, List.set_cons_succ]; rfl)), ?_⟩
              refine mx_val (by kernel_rfl) ⟨_, (by (intro w' hC; (obtain ⟨z8, z9⟩ := HCK.out _ hC); clear hC; (try go_simp); (try with_reducible rfl); done)), _, (by (simp only [Act.put, List.setIfInBounds_toArray, List.set_cons_zero, List.set_cons_succ]; rfl)), ?_⟩
              refine mx_val (by kernel_rfl) ⟨_, (by (intro w' hC; clear hC; (try go_simp); (try with_reducible rfl); done)), _, (by (simp only [Act.put, List.setIfInBounds_toArray, List.set_cons_zero, List.set_cons_succ]; rfl)), ?_⟩
              refine mx_end (hq2.drew) ?_
              have hq3 := hq2.drew
              clear hq2
              generalize wq2.drew = wq3 at *
              go_wp2_with fail
              refine wp_region_p [(0, true), (1, true), (2, true), (4, true), (5, true), (6, true), (9, true), (10, true), (11, true), (3, false), (7, false), (8, true), (12, false), (13, true)] (fun W => Below wr.heap.size wr W) (by kernel_rfl) (by kernel_rfl) ?_
              simp only [List.map_cons, List.map_nil, List.filterMap_cons, List.filterMap_nil, List.getElem?_cons_zero, List.getElem?_cons_succ, List.length_cons, List.length_nil, Nat.zero_add, Nat.reduceAdd, List.drop_succ_cons, List.drop_zero]
              refine mx_move _ (by kernel_rfl) rfl ⟨_, (by ((try simp [go_sem]); (try rfl); done)), _, (by (simp only [Act.put, List.setIfInBounds_toArray, List.set_cons_zero, List.set_cons_succ]; rfl)), ?_⟩
              refine mx_val (by kernel_rfl) ⟨_, (by (intro w' hC; clear hC; (try go_simp); (try with_reducible rfl); done)), _, (by (simp only [Act.put, List.setIfInBounds_toArray, List.set_cons_zero, List.set_cons_succ]; rfl)), ?_⟩
              refine mx_val (by kernel_rfl) ⟨_, (by (intro w' hC; (obtain ⟨z0, z1, z2, z3, z4, z5, z6, z7⟩ := HX.out _ hC); clear hC; (try go_simp); (try with_reducible rfl); done)), _, (by (simp only [Act.put, List.setIfInBounds_toArray, List.set_cons_zero, List.set_cons_succ]; rfl)), ?_⟩
              refine mx_move _ (by kernel_rfl) rfl ⟨_, (by ((try simp [go_sem]); (try rfl); done)), _, (by (simp only [Act.put, List.setIfInBounds_toArray, List.set_cons_zero, List.set_cons_succ]; rfl)), ?_⟩
              refine mx_val (by kernel_rfl) ⟨_, (by (intro w' hC; clear hC; (try go_simp); (try with_reducible rfl); done)), _, (by (simp only [Act.put, List.setIfInBounds_toArray, List.set_cons_zero, List.set_cons_succ]; rfl)), ?_⟩
              refine mx_val (by kernel_rfl) ⟨_, (by (intro w' hC; (obtain ⟨z0, z1, z2, z3, z4, z5, z6, z7⟩ := HX.out _ hC); clear hC; (try go_simp); (try with_reducible rfl); done)), _, (by (simp only [Act.put, List.setIfInBounds_toArray, List.set_cons_zero, List.set_cons_succ]; rfl)), ?_⟩
              refine mx_move _ (by kernel_rfl) rfl ⟨_, (by ((try simp [go_sem]); (try rfl); done)), _, (by (simp only [Act.put, List.setIfInBounds_toArray, List.set_cons_zero, List.set_cons_succ]; rfl)), ?_⟩
              refine mx_val (by kernel_rfl) ⟨_, (by (intro w' hC; clear hC; (try go_simp); (try with_reducible rfl); done)), _, (by (simp only [Act.put, List.setIfInBounds_toArray, List.set_cons_zero, List.set_cons_succ]; rfl)), ?_⟩
              refine mx_val (by kernel_rfl) ⟨_, (by (intro w' hC; (obtain ⟨z0, z1, z2, z3, z4, z5, z6, z7⟩ := HX.out _ hC); clear hC; (try go_simp); (try with_reducible rfl); done)), _, (by (simp only [Act.put, List.setIfInBounds_toArray, List.set_cons_zero, List.set_cons_succ]; rfl)), ?_⟩
              refine mx_call (hq3.drew) (by kernel_rfl) ?_ (HA2.out _) ?_
              · (go_simp; done)
              rintro e w1 ⟨rfl, rfl⟩
              refine ⟨_, rfl, _, (by (simp only [Act.put, List.setIfInBounds_toArray, List.set_cons_zero, List.set_cons_succ]; rfl)), ?_⟩
              refine mx_call (hq3.drew) (by kernel_rfl) ?_ (HB2.out _) ?_
              · (go_simp; done)
              rintro e w1 ⟨rfl, rfl⟩
              refine ⟨_, rfl, _, (by (simp only [Act.put, List.setIfInBounds_toArray, List.set_cons_zero, List.set_cons_succ]; rfl)), ?_⟩
              refine mx_val (by kernel_rfl) ⟨_, (by (intro w' hC; clear hC; (try go_simp); (try with_reducible rfl); done)), _, (by (simp only [Act.put, List.setIfInBounds_toArray, List.set_cons_zero, List.set_cons_succ]; rfl)), ?_⟩
              refine mx_call (hq3.drew) (by kernel_rfl) ?_ (HC2.out _) ?_
              · (go_simp; done)
              rintro e w1 ⟨rfl, rfl⟩
              refine ⟨_, rfl, _, (by (simp only [Act.put, List.setIfInBounds_toArray, List.set_cons_zero, List.set_cons_succ]; rfl)), ?_⟩
              refine mx_val (by kernel_rfl) ⟨_, (by (intro w' hC; clear hC; (try go_simp); (try with_reducible rfl); done)), _, (by (simp only [Act.put, List.setIfInBounds_toArray, List.set_cons_zero, List.set_cons_succ]; rfl)), ?_⟩
              refine mx_end (hq3.drew) ?_
              have hq4 := hq3.drew
              clear hq3
              generalize wq3.drew = wq4 at *
              go_wp2_with fail
              refine wp_region_p [(0, true), (1, true), (2, true), (3, true), (4, true), (5, true), (6, true), (7, true), (8, true), (9, true), (10, true), (11, true), (12, true), (13, true), (14, true), (15, true), (16, true), (17, true), (18, true), (19, true), (20, true), (21, true), (22, true)] (fun W => Below wr.heap.size wr W) (by kernel_rfl) (by kernel_rfl) ?_
              simp only [List.map_cons, List.map_nil, List.filterMap_cons, List.filterMap_nil, List.getElem?_cons_zero, List.getElem?_cons_succ, List.length_cons, List.length_nil, Nat.zero_add, Nat.reduceAdd, List.drop_succ_cons, List.drop_zero]
              refine mx_move _ (by kernel_rfl) rfl ⟨_, (by ((try simp [go_sem]); (try rfl); done)), _, (by (simp only [Act.put, List.setIfInBounds_toArray, List.set_cons_zero, List.set_cons_succ]; rfl)), ?_⟩
              refine mx_val (by kernel_rfl) ⟨_, (by (intro w' hC; clear hC; (try go_simp); (try with_reducible rfl); done)), _, (by (simp only [Act.put, List.setIfInBounds_toArray, List.set_cons_zero, List.set_cons_succ]; rfl)), ?_⟩
              refine mx_val (by kernel_rfl) ⟨_, (by (intro w' hC; (obtain ⟨z0, z1, z2, z3, z4, z5, z6, z7⟩ := HX.out _ hC); clear hC; (try go_simp); (try with_reducible rfl); done)), _, (by (simp only [Act.put, List.setIfInBounds_toArray, List.set_cons_zero, List.set_cons_succ]; rfl)), ?_⟩
              refine mx_move _ (by kernel_rfl) rfl ⟨_, (by ((try simp [go_sem]); (try rfl); done)), _, (by (simp only [Act.put, List.setIfInBounds_toArray, List.set_cons_zero, List.set_cons_succ]; rfl)), ?_⟩
              refine mx_val (by kernel_rfl) ⟨_, (by (intro w' hC; clear hC; (try go_simp); (try with_reducible rfl); done)), _, (by (simp only [Act.put, List.setIfInBounds_toArray, List.set_cons_zero, List.set_cons_succ]; rfl)), ?_⟩
              refine mx_val (by kernel_rfl) ⟨_, (by (intro w' hC; (obtain ⟨z0, z1, z2, z3, z4, z5, z6, z7⟩ := HX.out _ hC); clear hC; (try go_simp); (try with_reducible rfl); done)), _, (by (simp only [Act.put, List.setIfInBounds_toArray, List.set_cons_zero, List.set_cons_succ]; rfl)), ?_⟩
              refine mx_val (by kernel_rfl) ⟨_, (by (intro w' hC; clear hC; (try go_simp); (try with_reducible rfl); done)), _, (by (simp only [Act.put, List.setIfInBounds_toArray, List.set_cons_zero, List.set_cons_succ]; rfl)), ?_⟩
              refine mx_move _ (by kernel_rfl) rfl ⟨_, (by ((try simp [go_sem]); (try rfl); done)), _, (by (simp only [Act.put, List.setIfInBounds_toArray, List.set_cons_zero, List.set_cons_succ]; rfl)), ?_⟩
              refine mx_val (by kernel_rfl) ⟨_, (by (intro w' hC; clear hC; (try go_simp); (try with_reducible rfl); done)), _, (by (simp only [Act.put, List.setIfInBounds_toArray, List.set_cons_zero, List.set_cons_succ]; rfl)), ?_⟩
              refine mx_val (by kernel_rfl) ⟨_, (by (intro w' hC; (obtain ⟨z0, z1, z2, z3, z4, z5, z6, z7⟩ := HX.out _ hC); clear hC; (try go_simp); (try with_reducible rfl); done)), _, (by (simp only [Act.put, List.setIfInBounds_toArray, List.set_cons_zero, List.set_cons_succ]; rfl)), ?_⟩
              refine mx_move _ (by kernel_rfl) rfl ⟨_, (by ((try simp [go_sem]); (try rfl); done)), _, (by (simp only [Act.put, List.setIfInBounds_toArray, List.set_cons_zero, List.set_cons_succ]; rfl)), ?_⟩
              refine mx_val (by kernel_rfl) ⟨_, (by (intro w' hC; clear hC; (try go_simp); (try with_reducible rfl); done)), _, (by (simp only [Act.put, List.setIfInBounds_toArray, List.set_cons_zero, List.set_cons_succ]; rfl)), ?_⟩
              refine mx_val (by kernel_rfl) ⟨_, (by (intro w' hC; (obtain ⟨z0, z1, z2, z3, z4, z5, z6, z7⟩ := HX.out _ hC); clear hC; (try go_simp); (try with_reducible rfl); done)), _, (by (simp only [Act.put, List.setIfInBounds_toArray, List.set_cons_zero, List.set_cons_succ]; rfl)), ?_⟩
              refine mx_val (by kernel_rfl) ⟨_, (by (intro w' hC; clear hC; (try go_simp); (try with_reducible rfl); done)), _, (by (simp only [Act.put, List.setIfInBounds_toArray, List.set_cons_zero, List.set_cons_succ]; rfl)), ?_⟩
              refine mx_val (by kernel_rfl) ⟨_, (by (intro w' hC; clear hC; (try go_simp); (try with_reducible rfl); done)), _, (by (simp only [Act.put, List.setIfInBounds_toArray, List.set_cons_zero, List.set_cons_succ]; rfl)), ?_⟩
              refine mx_move _ (by kernel_rfl) rfl ⟨_, (by ((try simp [go_sem]); (try rfl); done)), _, (by (simp only [Act.put, List.setIfInBounds_toArray, List.set_cons_zero, List.set_cons_succ]; rfl)), ?_⟩
              refine mx_val (by kernel_rfl) ⟨_, (by (intro w' hC; clear hC; (try go_simp); (try with_reducible rfl); done)), _, (by (simp only [Act.put, List.setIfInBounds_toArray, List.set_cons_zero, List.set_cons_succ]; rfl)), ?_⟩
              refine mx_val (by kernel_rfl) ⟨_, (by (intro w' hC; (obtain ⟨z0, z1, z2, z3, z4, z5, z6, z7⟩ := HX.out _ hC); clear hC; (try go_simp); (try with_reducible rfl); done)), _, (by (simp only [Act.put, List.setIfInBounds_toArray, List.set_cons_zero, List.set_cons_succ]; rfl)), ?_⟩
              refine mx_move _ (by kernel_rfl) rfl ⟨_, (by ((try simp [go_sem]); (try rfl); done)), _, (by (simp only [Act.put, List.setIfInBounds_toArray, List.set_cons_zero, List.set_cons_succ]; rfl)), ?_⟩
              refine mx_val (by kernel_rfl) ⟨_, (by (intro w' hC; clear hC; (try go_simp); (try with_reducible rfl); done)), _, (by (simp only [Act.put, List.setIfInBounds_toArray, List.set_cons_zero, List.set_cons_succ]; rfl)), ?_⟩
              refine mx_val (by kernel_rfl) ⟨_, (by (intro w' hC; (obtain ⟨z0, z1, z2, z3, z4, z5, z6, z7⟩ := HX.out _ hC); clear hC; (try go_simp); (try with_reducible rfl); done)), _, (by (simp only [Act.put, List.setIfInBounds_toArray, List.set_cons_zero, List.set_cons_succ]; rfl)), ?_⟩
              refine mx_val (by kernel_rfl) ⟨_, (by (intro w' hC; clear hC; (try go_simp); (try with_reducible rfl); done)), _, (by (simp only [Act.put, List.setIfInBounds_toArray, List.set_cons_zero, List.set_cons_succ]; rfl)), ?_⟩
              refine mx_val (by kernel_rfl) ⟨_, (by (intro w' hC; clear hC; (try go_simp); (try with_reducible rfl); done)), _, (by (simp only [Act.put, List.setIfInBounds_toArray, List.set_cons_zero, List.set_cons_succ]; rfl)), ?_⟩
              refine mx_end (hq4.drew) ?_
              have hq5 := hq4.drew
              clear hq4
              generalize wq4.drew = wq5 at *
              go_wp2_with fail
              refine wp_region_p [(0, true), (1, true), (2, true), (3, true), (4, true), (5, true), (6, true), (7, true), (8, true), (9, true), (10, true), (11, true), (12, true), (13, true), (14, true), (15, true), (16, true), (17, true), (18, true), (19, true), (20, true), (21, true), (22, true), (23, true), (24, true), (25, true), (26, true), (27, true)] (fun W => Below wr.heap.size wr W) (by kernel_rfl) (by kernel_rfl) ?_
              simp only [List.map_cons, List.map_nil, List.filterMap_cons, List.filterMap_nil, List.getElem?_cons_zero, List.getElem?_cons_succ, List.length_cons, List.length_nil, Nat.zero_add, Nat.reduceAdd, List.drop_succ_cons, List.drop_zero]
              refine mx_move _ (by kernel_rfl) rfl ⟨_, (by ((try simp [go_sem]); (try rfl); done)), _, (by (simp only [Act.put, List.setIfInBounds_toArray, List.set_cons_zero, List.set_cons_succ]; rfl)), ?_⟩
              refine mx_move _ (by kernel_rfl) rfl ⟨_, (by ((try simp [go_sem]); (try rfl); done)), _, (by (simp only [Act.put, List.setIfInBounds_toArray, List.set_cons_zero, List.set_cons_succ]; rfl)), ?_⟩
              refine mx_val (by kernel_rfl) ⟨_, (by (intro w' hC; clear hC; (try go_simp); (try with_reducible rfl); done)), _, (by (simp only [Act.put, List.setIfInBounds_toArray, List.set_cons_zero, List.set_cons_succ]; rfl)), ?_⟩
              refine mx_move _ (by kernel_rfl) rfl ⟨_, (by ((try simp [go_sem]); (try rfl); done)), _, (by (simp only [Act.put, List.setIfInBounds_toArray, List.set_cons_zero, List.set_cons_succ]; rfl)), ?_⟩
              refine mx_val (by kernel_rfl) ⟨_, (by (intro w' hC; clear hC; (try go_simp); (try with_reducible rfl); done)), _, (by (simp only [Act.put, List.setIfInBounds_toArray, List.set_cons_zero, List.set_cons_succ]; rfl)), ?_⟩
              refine mx_move _ (by kernel_rfl) rfl ⟨_, (by ((try simp [go_sem]); (try rfl); done)), _, (by (simp only [Act.put, List.setIfInBounds_toArray, List.set_cons_zero, List.set_cons_succ]; rfl)), ?_⟩
              refine mx_val (by kernel_rfl) ⟨_, (by (intro w' hC; clear hC; (try go_simp); (try with_reducible rfl); done)), _, (by (simp only [Act.put, List.setIfInBounds_toArray, List.set_cons_zero, List.set_cons_succ]; rfl)), ?_⟩
              refine mx_val (by kernel_rfl) ⟨_, (by (intro w' hC; (obtain ⟨z0, z1, z2, z3, z4, z5, z6, z7⟩ := HX.out _ hC); clear hC; (try go_simp); (try with_reducible rfl); done)), _, (by (simp only [Act.put, List.setIfInBounds_toArray, List.set_cons_zero, List.set_cons_succ]; rfl)), ?_⟩
              refine mx_move _ (by kernel_rfl) rfl ⟨_, (by ((try simp [go_sem]); (try rfl); done)), _, (by (simp only [Act.put, List.setIfInBounds_toArray, List.set_cons_zero, List.set_cons_succ]; rfl)), ?_⟩
              refine mx_val (by kernel_rfl) ⟨_, (by (intro w' hC; clear hC; (try go_simp); (try with_reducible rfl); done)), _, (by (simp only [Act.put, List.setIfInBounds_toArray, List.set_cons_zero, List.set_cons_succ]; rfl)), ?_⟩
              refine mx_val (by kernel_rfl) ⟨_, (by (intro w' hC; (obtain ⟨z0, z1, z2, z3, z4, z5, z6, z7⟩ := HX.out _ hC); clear hC; (try go_simp); (try with_reducible rfl); done)), _, (by (simp only [Act.put, List.setIfInBounds_toArray, List.set_cons_zero, List.set_cons_succ]; rfl)), ?_⟩
              refine mx_move _ (by kernel_rfl) rfl ⟨_, (by ((try simp [go_sem]); (try rfl); done)), _, (by (simp only [Act.put, List.setIfInBounds_toArray, List.set_cons_zero, List.set_cons_succ]; rfl)), ?_⟩
              refine mx_val (by kernel_rfl) ⟨_, (by (intro w' hC; clear hC; (try go_simp); (try with_reducible rfl); done)), _, (by (simp only [Act.put, List.setIfInBounds_toArray, List.set_cons_zero, List.set_cons_succ]; rfl)), ?_⟩
              refine mx_val (by kernel_rfl) ⟨_, (by (intro w' hC; (obtain ⟨z0, z1, z2, z3, z4, z5, z6, z7⟩ := HX.out _ hC); clear hC; (try go_simp); (try with_reducible rfl); done)), _, (by (simp only [Act.put, List.setIfInBounds_toArray, List.set_cons_zero, List.set_cons_succ]; rfl)), ?_⟩
              refine mx_move _ (by kernel_rfl) rfl ⟨_, (by ((try simp [go_sem]); (try rfl); done)), _, (by (simp only [Act.put, List.setIfInBounds_toArray, List.set_cons_zero, List.set_cons_succ]; rfl)), ?_⟩
              refine mx_val (by kernel_rfl) ⟨_, (by (intro w' hC; clear hC; (try go_simp); (try with_reducible rfl); done)), _, (by (simp only [Act.put, List.setIfInBounds_toArray, List.set_cons_zero, List.set_cons_succ]; rfl)), ?_⟩
              refine mx_val (by kernel_rfl) ⟨_, (by (intro w' hC; (obtain ⟨z0, z1, z2, z3, z4, z5, z6, z7⟩ := HX.out _ hC); clear hC; (try go_simp); (try with_reducible rfl); done)), _, (by (simp only [Act.put, List.setIfInBounds_toArray, List.set_cons_zero, List.set_cons_succ]; rfl)), ?_⟩
              refine mx_move _ (by kernel_rfl) rfl ⟨_, (by ((try simp [go_sem]); (try rfl); done)), _, (by (simp only [Act.put, List.setIfInBounds_toArray, List.set_cons_zero, List.set_cons_succ]; rfl)), ?_⟩
              refine mx_val (by kernel_rfl) ⟨_, (by (intro w' hC; clear hC; (try go_simp); (try with_reducible rfl); done)), _, (by (simp only [Act.put, List.setIfInBounds_toArray, List.set_cons_zero, List.set_cons_succ]; rfl)), ?_⟩
              refine mx_move _ (by kernel_rfl) rfl ⟨_, (by ((try simp [go_sem]); (try rfl); done)), _, (by (simp only [Act.put, List.setIfInBounds_toArray, List.set_cons_zero, List.set_cons_succ]; rfl)), ?_⟩
              refine mx_val (by kernel_rfl) ⟨_, (by (intro w' hC; clear hC; (try go_simp); (try with_reducible rfl); done)), _, (by (simp only [Act.put, List.setIfInBounds_toArray, List.set_cons_zero, List.set_cons_succ]; rfl)), ?_⟩
              refine mx_val (by kernel_rfl) ⟨_, (by (intro w' hC; (obtain ⟨z0, z1, z2, z3, z4, z5, z6, z7⟩ := HX.out _ hC); clear hC; (try go_simp); (try with_reducible rfl); done)), _, (by (simp only [Act.put, List.setIfInBounds_toArray, List.set_cons_zero, List.set_cons_succ]; rfl)), ?_⟩
              refine mx_move _ (by kernel_rfl) rfl ⟨_, (by ((try simp [go_sem]); (try rfl); done)), _, (by (simp only [Act.put, List.setIfInBounds_toArray, List.set_cons_zero, List.set_cons_succ]; rfl)), ?_⟩
              refine mx_val (by kernel_rfl) ⟨_, (by (intro w' hC; clear hC; (try go_simp); (try with_reducible rfl); done)), _, (by (simp only [Act.put, List.setIfInBounds_toArray, List.set_cons_zero, List.set_cons_succ]; rfl)), ?_⟩
              refine mx_val (by kernel_rfl) ⟨_, (by (intro w' hC; (obtain ⟨z0, z1, z2, z3, z4, z5, z6, z7⟩ := HX.out _ hC); clear hC; (try go_simp); (try with_reducible rfl); done)), _, (by (simp only [Act.put, List.setIfInBounds_toArray, List.set_cons_zero, List.set_cons_succ]; rfl)), ?_⟩
              refine mx_move _ (by kernel_rfl) rfl ⟨_, (by ((try simp [go_sem]); (try rfl); done)), _, (by (simp only [Act.put, List.setIfInBounds_toArray, List.set_cons_zero, List.set_cons_succ]; rfl)), ?_⟩
              refine mx_val (by kernel_rfl) ⟨_, (by (intro w' hC; clear hC; (try go_simp); (try with_reducible rfl); done)), _, (by (simp only [Act.put, List.setIfInBounds_toArray, List.set_cons_zero, List.set_cons_succ]; rfl)), ?_⟩
              refine mx_val (by kernel_rfl) ⟨_, (by (intro w' hC; (obtain ⟨z0, z1, z2, z3, z4, z5, z6, z7⟩ := HX.out _ hC); clear hC; (try go_simp); (try with_reducible rfl); done)), _, (by (simp only [Act.put, List.setIfInBounds_toArray, List.set_cons_zero, List.set_cons_succ]; rfl)), ?_⟩
              refine mx_end (hq5.drew) ?_
              have hq6 := hq5.drew
              clear hq5
              generalize wq5.drew = wq6 at *
              have hbz := hbw.trans (hq6.mono hbw.size)
              have hba : Below wq6.heap.size wq6 (wq6.alloc (.cells #[.int .u32 (t6 : Int), .int .u32 (va : Int), .int .u32 (vb : Int), .int .u32 (vc : Int), .int .u32 (t7 : Int), .int .u32 (ve : Int), .int .u32 (vf : Int), .int .u32 (vg : Int)] 76)) := (Below.refl _ _).alloc (Nat.le_refl _) _
              have hbE := hbz.trans (hba.mono hbz.size)
              have hol := OwW.lit8 wq6 w.heap.size ⟨t6, va, vb, vc, t7, ve, vf, vg⟩ (Nat.le_trans hw5.size hbz.size)
              go_wp2_with fail
              go_roundw
              case rel => exact ⟨i + 1, _, 8, ⟨t6, va, vb, vc, t7, ve, vf, vg⟩, hlt, by go_num, rfl, hol, HN, hbE⟩
              case measure => simp [intOf]; omega
            · have hi64 : ¬ (i : Int) < 64 := by omega
              have HU64 : Hid (u = rounds b v 64) := Lib.hid (by rw [hu.out, show i = 64 by omega])
              clear hu hi hlt
              obtain ⟨g, hA, _, hgl⟩ := hown.at_ (show 0 < 8 by omega)
              subst hA
              have hwl := hw5.trans (hbw.mono hw5.size)
              have HCC : Hid (∀ W, Below wr.heap.size wr W → ∀ k, k < 8 → W.cell? ⟨g1, o1 + k, none⟩ = some (.int .u32 ((v.l.getD k 0 : Nat) : Int)) ∧ W.cell? ⟨g, k, none⟩ = some (.int .u32 ((u.l.getD k 0 : Nat) : Int)) ∧ g1 < W.heap.size ∧ g < W.heap.size) := Lib.hid (fun W hW k hk => ⟨cell_later (hwl.trans (hW.mono hwl.size)) (HK1.out k hk), (hown.below hW).cell hk, Nat.lt_of_lt_of_le hg1 (Nat.le_trans hwl.size hW.size), Nat.lt_of_lt_of_le hgl hW.size⟩)
              clear hown hbw HW5 hw5 HK1 HK2 H1 H2 hrd1 HLL HL64 hg2 hgl hg1
              go_wp2_with fail
              rename World => wl
              go_loopw [23, 24] (fun ov jv w2 => ∃ (j : Nat) (B : Option Addr) (d : Nat) (M : List Nat), j ≤ 8 ∧ jv = .int .i64 (j : Int) ∧ ov = .slice B M.length d ∧ OwW w2 wl.heap.size B d M ∧ Hid (M = (add8 v u).l.take j) ∧ Below wl.heap.size wl w2) (fun _ jv _ => 8 - (intOf jv).toNat)
              case atStart => exact ⟨0, none, 0, [], Nat.zero_le _, rfl, rfl, OwW.nil _ _, Lib.hid rfl, Below.refl _ _⟩
              case round =>
                obtain ⟨j, B, d, M, hj, rfl, rfl, hom, hM, hbj⟩ := hrel
                have hMl : M.length ≤ 8 := by rw [hM.out, List.length_take]; exact Nat.le_trans (Nat.min_le_left _ _) hj
                by_cases hlt : j < 8
                · have hltj : (j : Int) < 8 := by omega
                  obtain ⟨p1, hp1⟩ : ∃ p, p = v.l.getD j 0 := ⟨_, rfl⟩
                  obtain ⟨p2, hp2⟩ : ∃ p, p = u.l.getD j 0 := ⟨_, rfl⟩
                  obtain ⟨p3, hp3⟩ : ∃ p, p = (p1 + p2) % W32 := ⟨_, rfl⟩
                  have v1 := add_u32 p1 p2
                  rw [← hp3] at v1
                  have HJ : Hid (∀ W, Below wr.heap.size wr W → W.cell? ⟨g1, o1 + j, none⟩ = some (.int .u32 (p1 : Int)) ∧ W.cell? ⟨g, j, none⟩ = some (.int .u32 (p2 : Int)) ∧ g1 < W.heap.size ∧ g < W.heap.size) := Lib.hid (fun W hW => by
                    rw [hp1, hp2]
                    exact HCC.out W (hbj.trans (hW.mono hbj.size)) j hlt)
                  have HN : Hid (M ++ [p3] = (add8 v u).l.take (j + 1)) := Lib.hid (by
                    rw [hM.out, List.take_succ_eq_append_getElem (show j < 8 from hlt), hp3, hp1, hp2, ← add8_get v u hlt, List.getD_eq_getElem?_getD, List.getElem?_eq_getElem (show j < 8 from hlt)]
                    rfl)
                  have HOM := Lib.hid hom
                  clear hp1 hp2 hp3 hom hM
                  go_wp2_with fail
                  refine wp_region_p [(0, true), (1, true), (2, true), (3, true), (4, true), (5, true), (6, true), (7, true), (8, true), (9, true), (10, false)] (fun W => Below wr.heap.size wr W) (by kernel_rfl) (by kernel_rfl) ?_
                  simp only [List.map_cons, List.map_nil, List.filterMap_cons, List.filterMap_nil, List.getElem?_cons_zero, List.getElem?_cons_succ, List.length_cons, List.length_nil, Nat.zero_add, Nat.reduceAdd, List.drop_succ_cons, List.drop_zero]
                  refine mx_move _ (by kernel_rfl) rfl ⟨_, (by ((try simp [go_sem]); (try rfl); done)), _, (by (simp only [Act.put, List.setIfInBounds_toArray, List.set_cons_zero, List.set_cons_succ]; rfl)), ?_⟩
                  refine mx_move _ (by kernel_rfl) rfl ⟨_, (by ((try simp [go_sem]); (try rfl); done)), _, (by (simp only [Act.put, List.setIfInBounds_toArray, List.set_cons_zero, List.set_cons_succ]; rfl)), ?_⟩
                  refine mx_move _ (by kernel_rfl) rfl ⟨_, (by ((try simp [go_sem]); (try rfl); done)), _, (by (simp only [Act.put, List.setIfInBounds_toArray, List.set_cons_zero, List.set_cons_succ]; rfl)), ?_⟩
                  refine mx_val (by kernel_rfl) ⟨_, (by (intro w' hC; clear hC; (try go_simp); (try with_reducible rfl); done)), _, (by (simp only [Act.put, List.setIfInBounds_toArray, List.set_cons_zero, List.set_cons_succ]; rfl)), ?_⟩
                  refine mx_val (by kernel_rfl) ⟨_, (by (intro w' hC; (obtain ⟨z0, z1, z2, z3⟩ := HJ.out _ hC); clear hC; (try go_simp); (try with_reducible rfl); done)), _, (by (simp only [Act.put, List.setIfInBounds_toArray, List.set_cons_zero, List.set_cons_succ]; rfl)), ?_⟩
                  refine mx_move _ (by kernel_rfl) rfl ⟨_, (by ((try simp [go_sem]); (try rfl); done)), _, (by (simp only [Act.put, List.setIfInBounds_toArray, List.set_cons_zero, List.set_cons_succ]; rfl)), ?_⟩
                  refine mx_move _ (by kernel_rfl) rfl ⟨_, (by ((try simp [go_sem]); (try rfl); done)), _, (by (simp only [Act.put, List.setIfInBounds_toArray, List.set_cons_zero, List.set_cons_succ]; rfl)), ?_⟩
                  refine mx_val (by kernel_rfl) ⟨_, (by (intro w' hC; clear hC; (try go_simp); (try with_reducible rfl); done)), _, (by (simp only [Act.put, List.setIfInBounds_toArray, List.set_cons_zero, List.set_cons_succ]; rfl)), ?_⟩
                  refine mx_val (by kernel_rfl) ⟨_, (by (intro w' hC; (obtain ⟨z0, z1, z2, z3⟩ := HJ.out _ hC); clear hC; (try go_simp); (try with_reducible rfl); done)), _, (by (simp only [Act.put, List.setIfInBounds_toArray, List.set_cons_zero, List.set_cons_succ]; rfl)), ?_⟩
                  refine mx_val (by kernel_rfl) ⟨_, (by (intro w' hC; clear hC; (try go_simp); (try with_reducible rfl); done)), _, (by (simp only [Act.put, List.setIfInBounds_toArray, List.set_cons_zero, List.set_cons_succ]; rfl)), ?_⟩
                  refine mx_alone ((by repeat (first | exact Below.refl _ _ | refine Below.alloc ?_ (by simp) _ | refine Below.setCell ?_ (by simp) _ | refine Below.drew ?_))) (by kernel_rfl) ⟨_, _, (by (go_simp; first | done | exact ⟨rfl, rfl⟩)), _, (by (simp only [Act.put, List.setIfInBounds_toArray, List.set_cons_zero, List.set_cons_succ]; rfl)), ?_⟩
                  refine mx_end (by repeat (first | exact Below.refl _ _ | refine Below.alloc ?_ (by simp) _ | refine Below.setCell ?_ (by simp) _ | refine Below.drew ?_)) ?_
                  have hba : Below wr.heap.size wr (wr.alloc (.cells #[.int .u32 (p3 : Int)] 76)).drew := (by repeat (first | exact Below.refl _ _ | refine Below.alloc ?_ (by simp) _ | refine Below.setCell ?_ (by simp) _ | refine Below.drew ?_))
                  have hoa := HOM.out.below hba
                  have hbj2 := hbj.trans (hba.mono hbj.size)
                  have hsz2 := hbj2.size
                  have hli := (RdW.lit1 wr p3).below ((Below.refl _ (wr.alloc (.cells #[.int .u32 (p3 : Int)] 76))).drew)
                  go_wp2_with (at_builtin; refine wpList_append_w rfl (.tmp 220) (.tmp 230) rfl rfl rfl rfl hoa rfl hli (by simp only [List.length_singleton]; omega) hsz2 ?_; intro A5 c5 w5 ho5 hb5 _; have hbj5 := hbj2.trans hb5)
                  rw [show M.length + 1 = (M ++ [p3]).length by simp]
                  go_roundw
                  case rel => exact ⟨j + 1, A5, c5, M ++ [p3], hlt, by go_num, rfl, ho5, HN, hbj5⟩
                  case measure => simp [intOf]; omega
                · have hj8 : ¬ (j : Int) < 8 := by omega
                  have HE : Hid (M = (compress v b).l) := Lib.hid (by
                    rw [hM.out, show j = 8 by omega]
                    unfold compress
                    rw [← HU64.out]
                    rfl)
                  have hwE := hwl.trans (hbj.mono hwl.size)
                  have hoE : OwW wr w.heap.size B d M := own_base hom (fun g9 hg9 => Nat.le_trans hwl.size (World.ownsRow.lt hom g9 hg9).1)
                  clear hM hom
                  go_wp2_with fail
                  go_ret
                  exact ⟨B, d, M, rfl, HE, hoE, hwE⟩

end Go.Proofs.YtjcfphdjgagimaaGreatDoor
