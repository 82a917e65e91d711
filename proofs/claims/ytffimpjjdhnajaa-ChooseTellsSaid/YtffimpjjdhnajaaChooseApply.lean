/- choose.Apply, tenderref27.Apply. -/
import Derived.Test.YtffimpjjdhnajaaChooseOfR
import Derived.Test.YtffimpjjdhnajaaFenceCloseR
namespace Go.Proofs.Ytffimpjjdhnajaa
open Go.RowKit Go.WideShapes Go.ChangeShapes Go.ChangeAt

/-- a change behind the choices -/
def choM (ch : List HV) (a : CV) : CV := if a.v = 5 then (if whoF (ofF ch a.p) = 1 then { a with v := 1 } else if whoF (ofF ch a.p) = 2 then { a with v := 2 } else a) else a
theorem choM_p (ch : List HV) (a : CV) : (choM ch a).p = a.p := by
  unfold choM
  split
  · split
    · rfl
    · split <;> rfl
  · rfl
theorem ch_putv (v : Int) : ∀ (l : List CV) (i : Nat) (x : CV), l[i]? = some x → (l.flatMap CV.cells).set (i * 9 + 8) (.int .i64 v) = (l.set i { x with v := v }).flatMap CV.cells
  | a :: l, 0, x, h => by
    simp at h
    subst h
    simp [CV.cells]
  | a :: l, i + 1, x, h => by
    have ih := ch_putv v l i x (by simpa using h)
    rw [List.flatMap_cons, List.set_cons_succ, List.flatMap_cons, ← ih, List.set_append_right _ _ (by rw [ch_len, Nat.add_mul]; omega), ch_len]
    congr 2
    omega
theorem Row.putv {w : World} {base g off n c : Nat} {x : List CV} (h : Row w base 44 9 (some ⟨g, off, none⟩) n c (x.flatMap CV.cells)) {i : Nat} {a : CV} (ha : x[i]? = some a) (v : Int) :
    Row (w.setCell ⟨g, off + i * 9 + 8, none⟩ (.int .i64 v)) base 44 9 (some ⟨g, off, none⟩) n c ((x.set i { a with v := v }).flatMap CV.cells) := by
  have h1 := h.put (i * 9 + 8) (.int .i64 v)
  rw [ch_putv v x i a ha, ← Nat.add_assoc] at h1
  exact h1
theorem Row.cell0 {w : World} {base g off n c : Nat} {x : List CV} (h : Row w base 44 9 (some ⟨g, off, none⟩) n c (x.flatMap CV.cells)) {i : Nat} {a : CV} (ha : x[i]? = some a) :
    w.cell? ⟨g, off + i * 9, none⟩ = some (.string a.p) := by
  obtain ⟨hi, rfl⟩ := List.getElem?_eq_some_iff.1 ha
  exact h.cell (g := g) (off := off) (j := i * 9) (u := .string x[i].p) (by rw [show i * 9 = i * 9 + 0 from rfl, flat_get (k := 9) ch_len x i 0 hi (by omega)]; rfl)
/-- so far turned -/
structure NX (ch : List HV) (x nx : List CV) (i : Nat) : Prop where
  len : nx.length = x.length
  at_ : ∀ (j : Nat) (a : CV), x[j]? = some a → nx[j]? = some (if j < i then choM ch a else a)
theorem NX.start (ch : List HV) (x : List CV) : NX ch x x 0 := ⟨rfl, fun j a h => by rw [if_neg (Nat.not_lt_zero _)]; exact h⟩
theorem NX.stay {ch : List HV} {x nx : List CV} {i : Nat} {a : CV} (h : NX ch x nx i) (ha : x[i]? = some a) (e : choM ch a = a) : NX ch x nx (i + 1) := ⟨h.len, fun j b hb => by
  rw [h.at_ j b hb]
  by_cases hj : j = i
  · subst hj
    rw [ha] at hb
    injection hb with hb
    subst hb
    rw [if_neg (by omega), if_pos (by omega), e]
  · by_cases h2 : j < i
    · rw [if_pos h2, if_pos (by omega)]
    · rw [if_neg h2, if_neg (by omega)]⟩
theorem NX.put {ch : List HV} {x nx : List CV} {i : Nat} {a : CV} (h : NX ch x nx i) (ha : x[i]? = some a) : NX ch x (nx.set i (choM ch a)) (i + 1) := ⟨by rw [List.length_set]; exact h.len, fun j b hb => by
  rw [List.getElem?_set]
  by_cases hj : i = j
  · subst hj
    rw [ha] at hb
    injection hb with hb
    subst hb
    rw [if_pos rfl, if_pos (by rw [h.len]; exact (List.getElem?_eq_some_iff.1 ha).1), if_pos (by omega)]
  · rw [if_neg hj, h.at_ j b hb]
    by_cases h2 : j < i
    · rw [if_pos h2, if_pos (by omega)]
    · rw [if_neg h2, if_neg (by omega)]⟩
theorem NX.end_ {ch : List HV} {x nx : List CV} (h : NX ch x nx x.length) : nx = x.map (choM ch) := by
  apply List.ext_getElem?
  intro j
  rw [List.getElem?_map]
  rcases Nat.lt_or_ge j x.length with hj | hj
  · rw [h.at_ j _ (List.getElem?_eq_getElem hj), if_pos hj, List.getElem?_eq_getElem hj]; rfl
  · rw [List.getElem?_eq_none (by rw [h.len]; exact hj), List.getElem?_eq_none hj]; rfl
theorem NX.get {ch : List HV} {x nx : List CV} {i : Nat} {a : CV} (h : NX ch x nx i) (ha : x[i]? = some a) : nx[i]? = some a := by rw [h.at_ i a ha, if_neg (by omega)]


set_option maxRecDepth 100000 in
set_option maxHeartbeats 2000000 in
theorem choApply_any (A B : Option Addr) (c d : Nat) (l : List CV) (ch : List HV) (w : World) (h : Chs w (fun b => b < w.heap.size) A l) (hch : Hvs w (fun b => b < w.heap.size) B ch) (hlen : l.length ≤ 1000000) :
    Calls Try.prog 46 #[.slice A l.length c, .slice B ch.length d] w fun e w' => ∃ (A' : Option Addr) (c' : Nat) (x y : List CV), e = .returned (.slice A' y.length c') ∧ Closes l x ∧ Closes (x.map (choM ch)) y ∧ Rd w' (fun b => w.heap.size ≤ b) 9 A' y.length (y.flatMap CV.cells) ∧ Below w.heap.size w w' := by
  have HCH := Lib.hid (fun v (hv : Below w.heap.size w v) => hch.below hv)
  have HP : Hid (∀ o : CV, o.p ∈ l.map CV.p → o.p.size ≤ 140737488355328) := fun o ho => by
    obtain ⟨q, hq, e⟩ := List.mem_map.1 ho
    rw [← e]
    exact h.p q hq
  go_enter Try.func46, Try.ntmps46
  go_wp2_with fail
  refine (close_row A c l _ w h hlen).mono ?_
  rintro e w1 ⟨A1, c1, x, rfl, hx, hrow, hb⟩
  have HX := Lib.hid hx
  have hxl : x.length ≤ 1000000 := by rw [← hx.1.le.1]; exact hlen
  clear hx hch
  have hs1 := hb.size
  go_wp2_with fail
  go_loopw [14] (fun iv wr => ∃ (i : Nat) (nx : List CV), i ≤ x.length ∧ iv = .int .i64 (i : Int) ∧ Hid (NX ch x nx i) ∧ Row wr w.heap.size 44 9 A1 x.length c1 (nx.flatMap CV.cells) ∧ Below w.heap.size w wr) (fun iv _ => x.length - (intOf iv).toNat)
  case atStart => exact ⟨0, x, Nat.zero_le _, rfl, NX.start ch x, hrow, hb⟩
  case round =>
    clear hrow hb hs1
    obtain ⟨i, nx, hi, rfl, hN, hrow, hb⟩ := hrel
    have hsz := hb.size
    by_cases hlt : i < x.length
    · have HA := Lib.hid (show x[i]? = some x[i] from List.getElem?_eq_getElem hlt)
      generalize x[i] = a at *
      obtain ⟨g, off, rfl, hgb, hgl⟩ := hrow.addr (by omega)
      have hna := hN.out.get HA.out
      have k8 := hrow.cell8 hna
      have k0 := hrow.cell0 hna
      have z8 : wr.frozen? ⟨g, off + i * 9 + 8, none⟩ = false := hrow.frozen _
      have HG := Lib.hid hna
      have hap := HP.out a (HX.out.1.path HA.out)
      have HO := Lib.hid (chooseOf_any B d ch a.p _ wr (HCH.out _ hb) hap)
      have hM : choM ch a = if a.v = 5 then (if whoF (ofF ch a.p) = 1 then { a with v := 1 } else if whoF (ofF ch a.p) = 2 then { a with v := 2 } else a) else a := rfl
      have hSw : (ofF ch a.p).isSome = false → whoF (ofF ch a.p) = 0 := by cases ofF ch a.p <;> simp [whoF]
      generalize whoF (ofF ch a.p) = who at *
      generalize hS : (ofF ch a.p).isSome = S at *
      have HK := Lib.hid (fun wv (hv : Below wr.heap.size wr wv) => (⟨(hrow.below hv).cell8 hna, (hrow.below hv).cell0 hna, (hrow.below hv).frozen _⟩ : wv.cell? ⟨g, off + i * 9 + 8, none⟩ = some (.int .i64 a.v) ∧ wv.cell? ⟨g, off + i * 9, none⟩ = some (.string a.p) ∧ wv.frozen? ⟨g, off + i * 9 + 8, none⟩ = false))

      cases hv : (a.v != 5)
      · have h5 : a.v = 5 := by simpa using hv
        have hv2 : (a.v == 5) = true := by simpa using h5
        by_cases hw1 : who = 1
        · subst hw1
          have HN2 : Hid (NX ch x (nx.set i { a with v := 1 }) (i + 1)) := by have := hN.out.put HA.out; rw [show choM ch a = { a with v := 1 } by rw [hM, if_pos h5]; simp] at this; exact this
          clear hM hN h5 hna hv2 hSw
          go_wp2_with fail
          refine HO.out.mono ?_
          rintro e w3 ⟨rfl, hb3⟩
          obtain ⟨q8, q0, y8⟩ := HK.out _ hb3
          have row3 := hrow.below hb3
          have hb4 := hb.trans (hb3.mono hb.size)
          clear k8 k0 z8 HK hb3

          have HR3 := Lib.hid (row3.putv HG.out 1)
          have HB4 : Hid (Below w.heap.size w (w3.setCell ⟨g, off + i * 9 + 8, none⟩ (.int .i64 1))) := hb4.setCell (by simp; omega) _
          clear row3 hb4
          go_wp2_with fail
          clear q8 q0 y8
          go_roundw
          case rel => exact ⟨i + 1, nx.set i { a with v := 1 }, hlt, by go_num, HN2, HR3.out, HB4.out⟩
          case measure => simp [intOf]; omega
        · by_cases hw2 : who = 2
          · subst hw2
            have HN2 : Hid (NX ch x (nx.set i { a with v := 2 }) (i + 1)) := by have := hN.out.put HA.out; rw [show choM ch a = { a with v := 2 } by rw [hM, if_pos h5]; simp] at this; exact this
            clear hM hN h5 hna hv2 hSw
            go_wp2_with fail
            refine HO.out.mono ?_
            rintro e w3 ⟨rfl, hb3⟩
            obtain ⟨q8, q0, y8⟩ := HK.out _ hb3
            have row3 := hrow.below hb3
            have hb4 := hb.trans (hb3.mono hb.size)
            clear k8 k0 z8 HK hb3
            have HR3 := Lib.hid (row3.putv HG.out 2)
            have HB4 : Hid (Below w.heap.size w (w3.setCell ⟨g, off + i * 9 + 8, none⟩ (.int .i64 2))) := hb4.setCell (by simp; omega) _
            clear row3 hb4
            go_wp2_with fail
            clear q8 q0 y8
            go_roundw
            case rel => exact ⟨i + 1, nx.set i { a with v := 2 }, hlt, by go_num, HN2, HR3.out, HB4.out⟩
            case measure => simp [intOf]; omega
          · have e1 : (who == 1) = false := by simpa using hw1
            have e2 : (who == 2) = false := by simpa using hw2
            have HN2 : Hid (NX ch x nx (i + 1)) := hN.out.stay HA.out (by rw [hM, if_pos h5, if_neg hw1, if_neg hw2])
            clear hM hN h5 hna hv2 hSw
            go_wp2_with fail
            refine HO.out.mono ?_
            rintro e w3 ⟨rfl, hb3⟩
            obtain ⟨q8, q0, y8⟩ := HK.out _ hb3
            have row3 := hrow.below hb3
            have hb4 := hb.trans (hb3.mono hb.size)
            clear k8 k0 z8 HK hb3
            have HR3 := Lib.hid row3
            have HB4 := Lib.hid hb4
            clear row3 hb4
            go_wp2_with fail
            clear q8 q0 y8
            go_roundw
            case rel => exact ⟨i + 1, nx, hlt, by go_num, HN2, HR3.out, HB4.out⟩
            case measure => simp [intOf]; omega
      · have h5 : a.v ≠ 5 := by simpa using hv
        have hv2 : (a.v == 5) = false := by simpa using h5
        have HN2 : Hid (NX ch x nx (i + 1)) := hN.out.stay HA.out (by rw [hM, if_neg h5])
        have HR3 := Lib.hid hrow
        have HB4 := Lib.hid hb
        clear hM hN h5 hna hv2 hrow hb HK hSw
        go_wp2_with fail
        go_roundw
        case rel => exact ⟨i + 1, nx, hlt, by go_num, HN2, HR3.out, HB4.out⟩
        case measure => simp [intOf]; omega
    · have e : i = x.length := by omega
      subst e
      have en : nx = x.map (choM ch) := hN.out.end_
      have hnl := hN.out.len
      have hchs : Chs wr (fun b => w.heap.size ≤ b) A1 nx := by
        refine ⟨?_, ?_, by omega⟩
        · rw [hnl]
          exact hrow.rd.mono (fun b _ hz => (hrow.lt b hz).1)
        · intro o ho
          rw [en] at ho
          obtain ⟨q, hq, rfl⟩ := List.mem_map.1 ho
          obtain ⟨j, hj⟩ := List.mem_iff_getElem?.1 hq
          rw [choM_p]
          exact HP.out q (HX.out.1.path hj)
      have HF := close_any A1 c1 nx _ wr hchs (by omega)
      rw [hnl] at HF
      have HF2 := Lib.hid HF
      have HEN := Lib.hid en
      clear HF hchs en hnl
      go_wp2_with fail
      refine HF2.out.mono ?_
      rintro e w5 ⟨A5, c5, y, rfl, hy, hry, hb5⟩
      go_wp2_with fail
      go_ret
      refine ⟨A5, c5, x, y, rfl, HX.out, by rw [← HEN.out]; exact hy, hry.mono (fun b _ hz => by omega), hb.trans (hb5.mono hb.size)⟩


set_option maxRecDepth 100000 in
set_option maxHeartbeats 2000000 in
theorem choApplyR_any (A B : Option Addr) (c d : Nat) (l : List CV) (ch : List HV) (w : World) (h : Chs w (fun b => b < w.heap.size) A l) (hch : Hvs w (fun b => b < w.heap.size) B ch) (hlen : l.length ≤ 1000000) :
    Calls Try.prog 47 #[.slice A l.length c, .slice B ch.length d] w fun e w' => ∃ (A' : Option Addr) (c' : Nat) (x y : List CV), e = .returned (.slice A' y.length c') ∧ Closes l x ∧ Closes (x.map (choM ch)) y ∧ Rd w' (fun b => w.heap.size ≤ b) 9 A' y.length (y.flatMap CV.cells) ∧ Below w.heap.size w w' := by
  have HCH := Lib.hid (fun v (hv : Below w.heap.size w v) => hch.below hv)
  have HP : Hid (∀ o : CV, o.p ∈ l.map CV.p → o.p.size ≤ 140737488355328) := fun o ho => by
    obtain ⟨q, hq, e⟩ := List.mem_map.1 ho
    rw [← e]
    exact h.p q hq
  go_enter Try.func47, Try.ntmps47
  go_wp2_with fail
  refine (closeR_row A c l _ w h hlen).mono ?_
  rintro e w1 ⟨A1, c1, x, rfl, hx, hrow, hb⟩
  have HX := Lib.hid hx
  have hxl : x.length ≤ 1000000 := by rw [← hx.1.le.1]; exact hlen
  clear hx hch
  have hs1 := hb.size
  go_wp2_with fail
  go_loopw [6] (fun iv wr => ∃ (i : Nat) (nx : List CV), i ≤ x.length ∧ iv = .int .i64 (i : Int) ∧ Hid (NX ch x nx i) ∧ Row wr w.heap.size 44 9 A1 x.length c1 (nx.flatMap CV.cells) ∧ Below w.heap.size w wr) (fun iv _ => x.length - (intOf iv).toNat)
  case atStart => exact ⟨0, x, Nat.zero_le _, rfl, NX.start ch x, hrow, hb⟩
  case round =>
    clear hrow hb hs1
    obtain ⟨i, nx, hi, rfl, hN, hrow, hb⟩ := hrel
    have hsz := hb.size
    by_cases hlt : i < x.length
    · have HA := Lib.hid (show x[i]? = some x[i] from List.getElem?_eq_getElem hlt)
      generalize x[i] = a at *
      obtain ⟨g, off, rfl, hgb, hgl⟩ := hrow.addr (by omega)
      have hna := hN.out.get HA.out
      have k8 := hrow.cell8 hna
      have k0 := hrow.cell0 hna
      have z8 : wr.frozen? ⟨g, off + i * 9 + 8, none⟩ = false := hrow.frozen _
      have HG := Lib.hid hna
      have hap := HP.out a (HX.out.1.path HA.out)
      have HO := Lib.hid (ofR_any B d ch a.p _ wr (HCH.out _ hb) hap)
      have hM : choM ch a = if a.v = 5 then (if whoF (ofF ch a.p) = 1 then { a with v := 1 } else if whoF (ofF ch a.p) = 2 then { a with v := 2 } else a) else a := rfl
      have hSw : (ofF ch a.p).isSome = false → whoF (ofF ch a.p) = 0 := by cases ofF ch a.p <;> simp [whoF]
      generalize whoF (ofF ch a.p) = who at *
      generalize hS : (ofF ch a.p).isSome = S at *
      have HK := Lib.hid (fun wv (hv : Below wr.heap.size wr wv) => (⟨(hrow.below hv).cell8 hna, (hrow.below hv).cell0 hna, (hrow.below hv).frozen _⟩ : wv.cell? ⟨g, off + i * 9 + 8, none⟩ = some (.int .i64 a.v) ∧ wv.cell? ⟨g, off + i * 9, none⟩ = some (.string a.p) ∧ wv.frozen? ⟨g, off + i * 9 + 8, none⟩ = false))

      cases hv : (a.v != 5)
      · have h5 : a.v = 5 := by simpa using hv
        have hv2 : (a.v == 5) = true := by simpa using h5
        by_cases hw1 : who = 1
        · subst hw1
          obtain rfl : S = true := by cases S with | true => rfl | false => have := hSw rfl; omega
          have HN2 : Hid (NX ch x (nx.set i { a with v := 1 }) (i + 1)) := by have := hN.out.put HA.out; rw [show choM ch a = { a with v := 1 } by rw [hM, if_pos h5]; simp] at this; exact this
          clear hM hN h5 hna hSw
          go_wp2_with fail
          refine HO.out.mono ?_
          rintro e w3 ⟨rfl, hb3⟩
          obtain ⟨q8, q0, y8⟩ := HK.out _ hb3
          have row3 := hrow.below hb3
          have hb4 := hb.trans (hb3.mono hb.size)
          clear k8 k0 z8 HK hb3

          have HR3 := Lib.hid (row3.putv HG.out 1)
          have HB4 : Hid (Below w.heap.size w (w3.setCell ⟨g, off + i * 9 + 8, none⟩ (.int .i64 1))) := hb4.setCell (by simp; omega) _
          clear row3 hb4
          go_wp2_with fail
          clear q8 q0 y8
          go_roundw
          case rel => exact ⟨i + 1, nx.set i { a with v := 1 }, hlt, by go_num, HN2, HR3.out, HB4.out⟩
          case measure => simp [intOf]; omega
        · by_cases hw2 : who = 2
          · subst hw2
            obtain rfl : S = true := by cases S with | true => rfl | false => have := hSw rfl; omega
            have HN2 : Hid (NX ch x (nx.set i { a with v := 2 }) (i + 1)) := by have := hN.out.put HA.out; rw [show choM ch a = { a with v := 2 } by rw [hM, if_pos h5]; simp] at this; exact this
            clear hM hN h5 hna hSw
            go_wp2_with fail
            refine HO.out.mono ?_
            rintro e w3 ⟨rfl, hb3⟩
            obtain ⟨q8, q0, y8⟩ := HK.out _ hb3
            have row3 := hrow.below hb3
            have hb4 := hb.trans (hb3.mono hb.size)
            clear k8 k0 z8 HK hb3
            have HR3 := Lib.hid (row3.putv HG.out 2)
            have HB4 : Hid (Below w.heap.size w (w3.setCell ⟨g, off + i * 9 + 8, none⟩ (.int .i64 2))) := hb4.setCell (by simp; omega) _
            clear row3 hb4
            go_wp2_with fail
            clear q8 q0 y8
            go_roundw
            case rel => exact ⟨i + 1, nx.set i { a with v := 2 }, hlt, by go_num, HN2, HR3.out, HB4.out⟩
            case measure => simp [intOf]; omega
          · have e1 : (who == 1) = false := by simpa using hw1
            have e2 : (who == 2) = false := by simpa using hw2
            have HN2 : Hid (NX ch x nx (i + 1)) := hN.out.stay HA.out (by rw [hM, if_pos h5, if_neg hw1, if_neg hw2])
            clear hM hN h5 hna hSw
            go_wp2_with fail
            refine HO.out.mono ?_
            rintro e w3 ⟨rfl, hb3⟩
            obtain ⟨q8, q0, y8⟩ := HK.out _ hb3
            have row3 := hrow.below hb3
            have hb4 := hb.trans (hb3.mono hb.size)
            clear k8 k0 z8 HK hb3
            have HR3 := Lib.hid row3
            have HB4 := Lib.hid hb4
            clear row3 hb4
            cases S
            · go_wp2_with fail
              clear q8 q0 y8
              go_roundw
              case rel => exact ⟨i + 1, nx, hlt, by go_num, HN2, HR3.out, HB4.out⟩
              case measure => simp [intOf]; omega
            · go_wp2_with fail
              clear q8 q0 y8
              go_roundw
              case rel => exact ⟨i + 1, nx, hlt, by go_num, HN2, HR3.out, HB4.out⟩
              case measure => simp [intOf]; omega
      · have h5 : a.v ≠ 5 := by simpa using hv
        have hv2 : (a.v == 5) = false := by simpa using h5
        have HN2 : Hid (NX ch x nx (i + 1)) := hN.out.stay HA.out (by rw [hM, if_neg h5])
        clear hM hN h5 hna hSw
        go_wp2_with fail
        refine HO.out.mono ?_
        rintro e w3 ⟨rfl, hb3⟩
        obtain ⟨q8, q0, y8⟩ := HK.out _ hb3
        have row3 := hrow.below hb3
        have hb4 := hb.trans (hb3.mono hb.size)
        clear k8 k0 z8 HK hb3
        have HR3 := Lib.hid row3
        have HB4 := Lib.hid hb4
        clear row3 hb4
        go_wp2_with fail
        clear q8 q0 y8
        go_roundw
        case rel => exact ⟨i + 1, nx, hlt, by go_num, HN2, HR3.out, HB4.out⟩
        case measure => simp [intOf]; omega
    · have e : i = x.length := by omega
      subst e
      have en : nx = x.map (choM ch) := hN.out.end_
      have hnl := hN.out.len
      have hchs : Chs wr (fun b => w.heap.size ≤ b) A1 nx := by
        refine ⟨?_, ?_, by omega⟩
        · rw [hnl]
          exact hrow.rd.mono (fun b _ hz => (hrow.lt b hz).1)
        · intro o ho
          rw [en] at ho
          obtain ⟨q, hq, rfl⟩ := List.mem_map.1 ho
          obtain ⟨j, hj⟩ := List.mem_iff_getElem?.1 hq
          rw [choM_p]
          exact HP.out q (HX.out.1.path hj)
      have HF := closeR_any A1 c1 nx _ wr hchs (by omega)
      rw [hnl] at HF
      have HF2 := Lib.hid HF
      have HEN := Lib.hid en
      clear HF hchs en hnl
      go_wp2_with fail
      refine HF2.out.mono ?_
      rintro e w5 ⟨A5, c5, y, rfl, hy, hry, hb5⟩
      go_wp2_with fail
      go_ret
      refine ⟨A5, c5, x, y, rfl, HX.out, by rw [← HEN.out]; exact hy, hry.mono (fun b _ hz => by omega), hb.trans (hb5.mono hb.size)⟩

end Go.Proofs.Ytffimpjjdhnajaa
