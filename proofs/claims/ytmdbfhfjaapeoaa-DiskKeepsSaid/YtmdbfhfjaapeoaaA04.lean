/- tenderref11: New, counted, Used, Place, asked. -/
import Derived.Test.YtmdbfhfjaapeoaaA03

namespace Go.Proofs.Ytmdbfhfjaapeoaa
open Go.RowKit Go.Maps

theorem getZ_cons {α : Type} (x : Int × α) (l : List (Int × α)) (n : Int) : getZ (x :: l) n = if x.1 = n then some x.2 else getZ l n := rfl
def fileC (x : Int × FV) : List Value := [.int .i64 x.1, .slice x.2.x.A x.2.x.l.length x.2.x.c, .int .i64 x.2.s]
theorem fileC_len (x : Int × FV) : (fileC x).length = 3 := rfl
/-- a row of the document's files -/
structure Fls (w : World) (A : Option Addr) (L : List (Int × FV)) : Prop where
  rd : Rd w (fun _ => True) 3 A L.length (L.flatMap fileC)
  ok : ∀ x ∈ L, x.2.x.ok w (fun _ => True)
  len : L.length ≤ 1000000
theorem Fls.nil (w : World) : Fls w none [] := ⟨Rd.nil, by simp, by simp⟩
theorem Fls.below {w w' : World} {A : Option Addr} {L : List (Int × FV)} (h : Fls w A L) (k : Below w.heap.size w w') : Fls w' A L := ⟨h.rd.below k, fun x hx => (h.ok x hx).below k, h.len⟩
theorem Fls.at_ {w : World} {A : Option Addr} {L : List (Int × FV)} {i : Nat} (h : Fls w A L) (hi : i < L.length) :
    ∃ b off, A = some ⟨b, off, none⟩ ∧ b < w.heap.size ∧ w.cell? ⟨b, off + i * 3, none⟩ = some (.int .i64 L[i].1) ∧ w.cell? ⟨b, off + i * 3 + 1, none⟩ = some (.slice L[i].2.x.A L[i].2.x.l.length L[i].2.x.c) ∧ w.cell? ⟨b, off + i * 3 + 2, none⟩ = some (.int .i64 L[i].2.s) := by
  obtain ⟨b, off, hA, _, hb, hc⟩ := h.rd.2 (by omega)
  have hg : ∀ j, j < 3 → (L.flatMap fileC)[i * 3 + j]? = (fileC L[i])[j]? := fun j hj => flat_get (k := 3) fileC_len L i j hi hj
  refine ⟨b, off, hA, hb, hc _ _ (hg 0 (by omega)), ?_, ?_⟩
  · rw [Nat.add_assoc]; exact hc _ _ (hg 1 (by omega))
  · rw [Nat.add_assoc]; exact hc _ _ (hg 2 (by omega))
abbrev refV (A : Option Addr) (n c : Nat) (last room left : Int) : Value := .agg #[.slice A n c, .int .i64 last, .int .i64 room, .int .i64 left]


set_option maxRecDepth 100000 in
set_option maxHeartbeats 1000000 in
theorem refNew_any (room : Int) (w : World) :
    Calls Try.prog 13 #[.int .i64 room] w fun e w' => e = .returned (refV none 0 0 0 (newD room).room (-1)) ∧ Below w.heap.size w w' := by
  obtain ⟨r, hr⟩ : ∃ r, r = (newD room).room := ⟨_, rfl⟩
  rw [← hr]
  have hr2 : r = min (max room 0) 1048576 := hr
  clear hr
  by_cases h1 : room < 0
  · obtain rfl : r = 0 := by omega
    clear hr2
    go_enter Try.func13, Try.ntmps13
    go_wp2_with fail
    refine bodyPost_ret (v := refV none 0 0 0 0 (-1)) (by simp [results, Try.results13, go_sem]) rfl ?_
    exact ⟨rfl, (by repeat (first | exact Below.refl _ _ | refine Below.alloc ?_ (by simp) _ | refine Below.setCell ?_ (by simp) _ | refine Below.drew ?_))⟩
  · by_cases h2 : room > 1048576
    · obtain rfl : r = 1048576 := by omega
      clear hr2
      go_enter Try.func13, Try.ntmps13
      go_wp2_with fail
      refine bodyPost_ret (v := refV none 0 0 0 1048576 (-1)) (by simp [results, Try.results13, go_sem]) rfl ?_
      exact ⟨rfl, (by repeat (first | exact Below.refl _ _ | refine Below.alloc ?_ (by simp) _ | refine Below.setCell ?_ (by simp) _ | refine Below.drew ?_))⟩
    · obtain rfl : r = room := by omega
      clear hr2
      go_enter Try.func13, Try.ntmps13
      go_wp2_with fail
      refine bodyPost_ret (v := refV none 0 0 0 r (-1)) (by simp [results, Try.results13, go_sem]) rfl ?_
      exact ⟨rfl, (by repeat (first | exact Below.refl _ _ | refine Below.alloc ?_ (by simp) _ | refine Below.setCell ?_ (by simp) _ | refine Below.drew ?_))⟩
set_option maxRecDepth 100000 in
set_option maxHeartbeats 1000000 in
theorem refCounted_any (A : Option Addr) (n c : Nat) (last room left : Int) (w : World) (hb : left < 9223372036854775808) :
    Calls Try.prog 45 #[refV A n c last room left] w fun e w' => e = .returned (refV A n c last room (if 0 < left then left - 1 else left)) ∧ Below w.heap.size w w' := by
  have hw0 : Below w.heap.size w (w.alloc (.cells #[.slice A n c, .int .i64 last, .int .i64 room, .int .i64 left] 38)) := (by repeat (first | exact Below.refl _ _ | refine Below.alloc ?_ (by simp) _ | refine Below.setCell ?_ (by simp) _ | refine Below.drew ?_))
  have x0 := Blk.new w 38 #[.slice A n c, .int .i64 last, .int .i64 room, .int .i64 left]
  have q0 := x0.cell 0
  have q1 := x0.cell 1
  have q2 := x0.cell 2
  have q3 := x0.cell 3
  simp only [List.getElem?_toArray, List.getElem?_cons_zero, List.getElem?_cons_succ] at q0 q1 q2 q3
  by_cases hl : 0 < left
  · rw [if_pos hl]
    have hw := IntWalk.wrap64_in (left - 1) ⟨by omega, by omega⟩
    go_enter Try.func45, Try.ntmps45
    go_wp2_with fail
    refine bodyPost_ret (v := refV A n c last room (left - 1)) (by simp [results, Try.results45, go_sem]) rfl ?_
    exact ⟨rfl, (by repeat (first | exact Below.refl _ _ | refine Below.alloc ?_ (by simp) _ | refine Below.setCell ?_ (by simp) _ | refine Below.drew ?_))⟩
  · rw [if_neg hl]
    have hlb : decide (0 < left) = false := decide_eq_false hl
    go_enter Try.func45, Try.ntmps45
    go_wp2_with fail
    refine bodyPost_ret (v := refV A n c last room left) (by simp [results, Try.results45, go_sem]) rfl ?_
    exact ⟨rfl, (by repeat (first | exact Below.refl _ _ | refine Below.alloc ?_ (by simp) _ | refine Below.setCell ?_ (by simp) _ | refine Below.drew ?_))⟩
set_option maxRecDepth 100000 in
set_option maxHeartbeats 1000000 in
theorem refUsed_any (A : Option Addr) (c : Nat) (L : List (Int × FV)) (last room left : Int) (w : World) (h : Fls w A L) (hu : usedS (plainD L) ≤ 1048576) :
    Calls Try.prog 41 #[refV A L.length c last room left] w fun e w' => e = .returned (.int .i64 (usedS (plainD L) : Int)) ∧ Below w.heap.size w w' := by
  have hw0 : Below w.heap.size w (w.alloc (.cells #[.slice A L.length c, .int .i64 last, .int .i64 room, .int .i64 left] 38)) := (by repeat (first | exact Below.refl _ _ | refine Below.alloc ?_ (by simp) _ | refine Below.setCell ?_ (by simp) _ | refine Below.drew ?_))
  have x0 := Blk.new w 38 #[.slice A L.length c, .int .i64 last, .int .i64 room, .int .i64 left]
  have q0 := x0.cell 0
  have q1 := x0.cell 1
  have q2 := x0.cell 2
  have q3 := x0.cell 3
  simp only [List.getElem?_toArray, List.getElem?_cons_zero, List.getElem?_cons_succ] at q0 q1 q2 q3
  have HF := Lib.hid (h.below hw0)
  clear h x0
  go_enter Try.func41, Try.ntmps41
  go_wp2_with fail
  generalize w.alloc (.cells #[.slice A L.length c, .int .i64 last, .int .i64 room, .int .i64 left] 38) = w0 at *
  go_loopw [3, 4] (fun sv iv wr => ∃ (i m : Nat), i ≤ L.length ∧ iv = .int .i64 (i : Int) ∧ sv = .int .i64 (m : Int) ∧ Hid (m = usedS ((plainD L).take i)) ∧ wr = w0) (fun _ iv _ => L.length - (intOf iv).toNat)
  case atStart => exact ⟨0, 0, Nat.zero_le _, rfl, rfl, by show _ = _; simp [usedS], rfl⟩
  case round =>
    obtain ⟨i, m, hi, rfl, rfl, hm, rfl⟩ := hrel
    by_cases hlt : i < L.length
    · obtain ⟨b, off, hA, hbb, c0, c1, c2⟩ := HF.out.at_ hlt
      have hlen := HF.out.len
      have htk := used_take (plainD L) i (by rw [plainD_len]; exact hlt)
      have hpi : (plainD L)[i]'(by rw [plainD_len]; exact hlt) = (L[i].1, L[i].2.p) := by simp [plainD]
      rw [hpi] at htk
      have hle := used_le (plainD L) (i + 1)
      have h3 : (L[i].1, L[i].2.p).2.1.length = L[i].2.x.l.length := rfl
      rw [h3] at htk
      have hbd : m + L[i].2.x.l.length ≤ 1048576 := by have := hm.out; omega
      have HN : Hid (m + L[i].2.x.l.length = usedS ((plainD L).take (i + 1))) := Lib.hid (by rw [htk, ← hm.out])
      subst hA
      generalize L[i].2.x.l.length = z at *
      clear htk hpi hle h3 hm c0 c2
      go_wp2_with fail
      go_roundw
      case rel => exact ⟨i + 1, m + z, hlt, by go_num, by go_num, HN.out, trivial⟩
      case measure => simp [intOf]; omega
    · have e : i = L.length := by omega
      subst e
      have hn2 : m = usedS (plainD L) := by rw [hm.out, ← plainD_len, List.take_length]
      rw [hn2]
      go_wp2_with fail
      go_ret
      exact ⟨rfl, hw0⟩
set_option maxRecDepth 100000 in
set_option maxHeartbeats 1000000 in
/-- where a file stands -/
theorem refPlace_any (A : Option Addr) (c : Nat) (L : List (Int × FV)) (last room left n : Int) (w : World) (h : Fls w A L) :
    Calls Try.prog 47 #[refV A L.length c last room left, .int .i64 n] w fun e w' => (∃ p : Int, e = .returned (.int .i64 p) ∧ Hid ((p = -1 ∧ getZ L n = none) ∨ ∃ (i : Nat) (hi : i < L.length), p = (i : Int) ∧ L[i].1 = n ∧ getZ L n = some L[i].2)) ∧ Below w.heap.size w w' := by
  have hw0 : Below w.heap.size w (w.alloc (.cells #[.slice A L.length c, .int .i64 last, .int .i64 room, .int .i64 left] 38)) := (by repeat (first | exact Below.refl _ _ | refine Below.alloc ?_ (by simp) _ | refine Below.setCell ?_ (by simp) _ | refine Below.drew ?_))
  have x0 := Blk.new w 38 #[.slice A L.length c, .int .i64 last, .int .i64 room, .int .i64 left]
  have q0 := x0.cell 0
  have q1 := x0.cell 1
  have q2 := x0.cell 2
  have q3 := x0.cell 3
  simp only [List.getElem?_toArray, List.getElem?_cons_zero, List.getElem?_cons_succ] at q0 q1 q2 q3
  have HF := Lib.hid (h.below hw0)
  clear h x0
  go_enter Try.func47, Try.ntmps47
  go_wp2_with fail
  generalize w.alloc (.cells #[.slice A L.length c, .int .i64 last, .int .i64 room, .int .i64 left] 38) = w0 at *
  go_loopw [5] (fun iv wr => ∃ (i : Nat), i ≤ L.length ∧ iv = .int .i64 (i : Int) ∧ Hid (getZ L n = getZ (L.drop i) n) ∧ wr = w0) (fun iv _ => L.length - (intOf iv).toNat)
  case atStart => exact ⟨0, Nat.zero_le _, rfl, rfl, rfl⟩
  case round =>
    obtain ⟨i, hi, rfl, hg, rfl⟩ := hrel
    by_cases hlt : i < L.length
    · obtain ⟨b, off, hA, hbb, c0, c1, c2⟩ := HF.out.at_ hlt
      have hlen := HF.out.len
      have hd : L.drop i = L[i] :: L.drop (i + 1) := List.drop_eq_getElem_cons hlt
      have hg2 := hg.out
      rw [hd, getZ_cons] at hg2
      subst hA
      by_cases he : L[i].1 = n
      · rw [if_pos he] at hg2
        have HR : Hid (((i : Int) = -1 ∧ getZ L n = none) ∨ ∃ (j : Nat) (hj : j < L.length), (i : Int) = (j : Int) ∧ L[j].1 = n ∧ getZ L n = some L[j].2) := Lib.hid (.inr ⟨i, hlt, rfl, he, hg2⟩)
        rw [he] at c0
        clear hd hg2 he hg c1 c2
        go_wp2_with fail
        go_ret
        exact ⟨⟨_, rfl, HR.out⟩, hw0⟩
      · rw [if_neg he] at hg2
        have HG : Hid (getZ L n = getZ (L.drop (i + 1)) n) := Lib.hid hg2
        have heb : (L[i].1 == n) = false := by simpa using he
        generalize L[i].1 = z at *
        clear hd hg2 hg c1 c2 he
        go_wp2_with fail
        go_roundw
        case rel => exact ⟨i + 1, hlt, by go_num, HG.out, trivial⟩
        case measure => simp [intOf]; omega
    · have e : i = L.length := by omega
      subst e
      have hn2 : getZ L n = none := by rw [hg.out, List.drop_length]; rfl
      have HN2 := Lib.hid hn2
      clear hn2 hg
      go_wp2_with fail
      go_ret
      exact ⟨⟨_, rfl, Lib.hid (.inl ⟨rfl, HN2.out⟩)⟩, hw0⟩
set_option maxRecDepth 100000 in
set_option maxHeartbeats 1000000 in
theorem refAsked_any (A : Option Addr) (c : Nat) (L : List (Int × FV)) (D : DP) (n : Int) (w : World) (h : Fls w A L) (hp : plainD L = D.L) :
    Calls Try.prog 46 #[refV A L.length c D.last D.room D.left, .int .i64 n] w fun e w' => e = .returned (.int .i64 (askS D n)) ∧ Below w.heap.size w w' := by
  have hw0 : Below w.heap.size w (w.alloc (.cells #[.slice A L.length c, .int .i64 D.last, .int .i64 D.room, .int .i64 D.left] 38)) := (by repeat (first | exact Below.refl _ _ | refine Below.alloc ?_ (by simp) _ | refine Below.setCell ?_ (by simp) _ | refine Below.drew ?_))
  have x0 := Blk.new w 38 #[.slice A L.length c, .int .i64 D.last, .int .i64 D.room, .int .i64 D.left]
  have q0 := x0.cell 0
  have q1 := x0.cell 1
  have q2 := x0.cell 2
  have q3 := x0.cell 3
  simp only [List.getElem?_toArray, List.getElem?_cons_zero, List.getElem?_cons_succ] at q0 q1 q2 q3
  have HP := Lib.hid (refPlace_any A c L D.last D.room D.left n _ (h.below hw0))
  have hgp : (getZ D.L n).isNone = (getZ L n).isNone := by rw [← hp, get_plainD]; cases getZ L n <;> rfl
  obtain ⟨E, hE⟩ : ∃ E, E = askS D n := ⟨_, rfl⟩
  rw [← hE]
  clear h hp x0
  by_cases h1 : D.left = 0
  · obtain rfl : E = 25 := by rw [hE]; unfold askS; rw [if_pos h1]
    rw [h1] at q3 HP ⊢
    clear hgp hE h1
    go_enter Try.func46, Try.ntmps46
    go_wp2_with fail
    go_ret
    exact ⟨rfl, (by repeat (first | exact Below.refl _ _ | refine Below.alloc ?_ (by simp) _ | refine Below.setCell ?_ (by simp) _ | refine Below.drew ?_))⟩
  · have h1b : (D.left == 0) = false := by simpa using h1
    unfold askS at hE
    rw [if_neg h1, hgp] at hE
    have HE := Lib.hid hE
    clear hE hgp h1
    go_enter Try.func46, Try.ntmps46
    go_wp2_with fail
    refine HP.out.mono ?_
    rintro e w1 ⟨⟨p, rfl, hr⟩, hb1⟩
    have hw1 := hw0.trans (hb1.mono hw0.size)
    rcases hr.out with ⟨rfl, hg⟩ | ⟨i, hi, rfl, _, hg⟩
    · obtain rfl : E = 20 := by rw [HE.out, if_pos (by rw [hg]; rfl)]
      clear hr hg HE
      go_wp2_with fail
      go_ret
      exact ⟨rfl, hw1⟩
    · obtain rfl : E = 0 := by rw [HE.out, if_neg (by rw [hg]; simp)]
      have hnl : decide ((i : Int) < 0) = false := decide_eq_false (by omega)
      clear hr hg HE
      go_wp2_with fail
      go_ret
      exact ⟨rfl, hw1⟩

end Go.Proofs.Ytmdbfhfjaapeoaa

/- tenderref11: with. -/
namespace Go.Proofs.Ytmdbfhfjaapeoaa
open Go.RowKit Go.Maps

/-- a row of files of the call's own -/
def OwF (w : World) (base : Nat) (A : Option Addr) (c : Nat) (L : List (Int × FV)) : Prop := w.ownsRow base 84 3 (.slice A L.length c) L.length (L.flatMap fileC)
theorem reffile_info : (Try.prog.info? 84).map (fun i => (i.zero, i.size, i.bytes)) = some (some (.agg #[.int .i64 0, .slice none 0 0, .int .i64 0]), 3, 40) := by kernel_rfl
theorem fileC_one (L : List (Int × FV)) : ∀ u ∈ L.flatMap fileC, u.oneCell' = true := by
  intro u hu
  obtain ⟨x, _, hx⟩ := List.mem_flatMap.1 hu
  simp only [fileC, List.mem_cons, List.not_mem_nil, or_false] at hx
  rcases hx with rfl | rfl | rfl <;> rfl
theorem OwF.fls {w : World} {base : Nat} {A : Option Addr} {c : Nat} {L : List (Int × FV)} (h : OwF w base A c L) (hok : ∀ x ∈ L, x.2.x.ok w (fun _ => True)) (hl : L.length ≤ 1000000) : Fls w A L := ⟨Rd.of_own h (fun _ _ _ => trivial), hok, hl⟩
theorem grown_belowD {B : Nat} {w w' : World} {row : Option Nat} (h : w.grownBy w' row) (hB : B ≤ w.heap.size) (hr : ∀ g, row = some g → B ≤ g) : Below B w w' := ⟨h.os, h.tape, h.output, h.size, fun k hk => h.block k (by omega) (fun e => by have := hr k e.symm; omega)⟩
/-- append of files -/
theorem wpList_append_files {w : World} {ops : Array Oper} {rest : List Oper} {o : Oper} {a : Act} {Q : Exit → Act → World → Prop} (hgd : o.guard = none) (s x : Operand)
    (ho : o.op = .call { callee := .builtin .append, args := #[s, x], argTypes := #[36, 36] })
    {base : Nat} {A A2 : Option Addr} {c c2 : Nat} {L N : List (Int × FV)} (hs : a.eval s = .slice A L.length c) (hown : OwF w base A c L) (hx : a.eval x = .slice A2 N.length c2) (hr : Rd w (fun _ => True) 3 A2 N.length (N.flatMap fileC))
    (hsum : L.length + N.length ≤ 1099511627776) (hbase : base ≤ w.heap.size)
    (h : ∀ (A' : Option Addr) (c' : Nat) (w' : World), OwF w' base A' c' (L ++ N) → Below base w w' → (∀ k, k < w.heap.size → (Value.slice A L.length c).ownBlock ≠ some k → w'.heap[k]? = w.heap[k]?) → wpList Try.prog ops Q rest (a.put o.dst (.slice A' (L.length + N.length) c')) w') : wpList Try.prog ops Q (o :: rest) a w := by
  obtain ⟨i0, hi0, hz0, hz1, hz2⟩ := info_parts reffile_info
  refine wpList_append_any w hgd s x _ ho base 84 i0 _ 3 40 Try.underlying36 hi0 hz0 hz1 hz2 rfl (by omega) (.slice A L.length c) L.length (L.flatMap fileC) hs hown _ A2 N.length c2 (N.flatMap fileC) hx hr (fun u hu => fileC_one N u hu) (by simp only [maxLen]; omega) (by omega) hbase ?_
  intro v' w' h1 h2 h3
  obtain ⟨A', c', rfl, _⟩ := own_form h1
  have hb := grown_belowD h2 hbase (fun g e => (hown.lt g e).1)
  refine h A' c' w' ?_ hb (fun k hk hne => h2.block k hk (fun e => hne e.symm))
  unfold OwF
  rw [List.length_append, List.flatMap_append]
  exact h1
theorem flat_set (L : List (Int × FV)) (i : Nat) (y : Int × FV) (hi : i < L.length) : (L.set i y).flatMap fileC = (((L.flatMap fileC).set (i * 3) (.int .i64 y.1)).set (i * 3 + 1) (.slice y.2.x.A y.2.x.l.length y.2.x.c)).set (i * 3 + 2) (.int .i64 y.2.s) := by
  induction L generalizing i with
  | nil => cases hi
  | cons x l ih =>
    cases i with
    | zero => simp [fileC]
    | succ i =>
      have := ih i (by simpa using hi)
      rw [List.set_cons_succ, List.flatMap_cons, this, List.flatMap_cons]
      simp [fileC, Nat.succ_mul, Nat.add_assoc]
theorem own_off {w : World} {base : Nat} {e : TypeId} {size n c : Nat} {A : Option Addr} {xs : List Value} (h : w.ownsRow base e size (.slice A n c) n xs) (hn : 0 < n) : ∃ g, A = some ⟨g, 0, none⟩ ∧ base ≤ g ∧ g < w.heap.size := by
  rcases h.2 with ⟨hv, h0⟩ | ⟨g, cap, cur, hv, hb, hg, _⟩
  · omega
  · injection hv with h1 h2 h3
    exact ⟨g, h1, hb, (Array.getElem?_eq_some_iff.1 hg).1⟩
theorem OwF.row {w : World} {base : Nat} {A : Option Addr} {c : Nat} {L : List (Int × FV)} (h : OwF w base A c L) : Row w base 84 3 A L.length c (L.flatMap fileC) := Row.of_own h
/-- a file written in its place -/
theorem row_put {w : World} {base g c : Nat} {L : List (Int × FV)} (h : Row w base 84 3 (some ⟨g, 0, none⟩) L.length c (L.flatMap fileC)) (i : Nat) (y : Int × FV) (hi : i < L.length) :
    Row (((w.setCell ⟨g, i * 3, none⟩ (.int .i64 y.1)).setCell ⟨g, i * 3 + 1, none⟩ (.slice y.2.x.A y.2.x.l.length y.2.x.c)).setCell ⟨g, i * 3 + 2, none⟩ (.int .i64 y.2.s)) base 84 3 (some ⟨g, 0, none⟩) (L.set i y).length c ((L.set i y).flatMap fileC) := by
  have h1 := ((h.put (i * 3) (.int .i64 y.1)).put (i * 3 + 1) (.slice y.2.x.A y.2.x.l.length y.2.x.c)).put (i * 3 + 2) (.int .i64 y.2.s)
  rw [List.length_set, flat_set L i y hi]
  simpa [Nat.zero_add] using h1
theorem row_fls {w : World} {base c : Nat} {A : Option Addr} {L : List (Int × FV)} (h : Row w base 84 3 A L.length c (L.flatMap fileC)) (hok : ∀ x ∈ L, x.2.x.ok w (fun _ => True)) (hl : L.length ≤ 1000000) : Fls w A L :=
  ⟨h.rd.mono (fun _ _ _ => trivial), hok, hl⟩

set_option maxRecDepth 100000 in
set_option maxHeartbeats 2000000 in
theorem refWith_any (A : Option Addr) (c : Nat) (L : List (Int × FV)) (last room left : Int) (i : Nat) (y : Int × FV) (w : World) (h : Fls w A L) (hi : i < L.length) (hy : y.2.x.ok w (fun _ => True)) :
    Calls Try.prog 48 #[refV A L.length c last room left, .int .i64 i, .agg #[.int .i64 y.1, .slice y.2.x.A y.2.x.l.length y.2.x.c, .int .i64 y.2.s]] w fun e w' => (∃ A' c', e = .returned (refV A' (L.set i y).length c' last room left) ∧ Fls w' A' (L.set i y) ∧ L.length ≤ c') ∧ Below w.heap.size w w' := by
  have HF := Lib.hid h
  have HY := Lib.hid hy
  have hw3 : Below w.heap.size w (((w.alloc (.cells #[.slice A L.length c, .int .i64 last, .int .i64 room, .int .i64 left] 38)).alloc (.cells #[.int .i64 y.1, .slice y.2.x.A y.2.x.l.length y.2.x.c, .int .i64 y.2.s] 84)).alloc (.cells #[.slice none 0 0, .int .i64 0, .int .i64 0, .int .i64 0] 38)) := (((Below.refl _ _).alloc (Nat.le_refl _) _).alloc (by simp) _).alloc (by simp; omega) _
  have x0 : Blk (((w.alloc (.cells #[.slice A L.length c, .int .i64 last, .int .i64 room, .int .i64 left] 38)).alloc (.cells #[.int .i64 y.1, .slice y.2.x.A y.2.x.l.length y.2.x.c, .int .i64 y.2.s] 84)).alloc (.cells #[.slice none 0 0, .int .i64 0, .int .i64 0, .int .i64 0] 38)) w.heap.size 38 #[.slice A L.length c, .int .i64 last, .int .i64 room, .int .i64 left] := (Blk.new w 38 #[.slice A L.length c, .int .i64 last, .int .i64 room, .int .i64 left]).below ((((Below.refl _ _).alloc (Nat.le_refl _) _)).alloc (by simp) _)
  have x1 : Blk (((w.alloc (.cells #[.slice A L.length c, .int .i64 last, .int .i64 room, .int .i64 left] 38)).alloc (.cells #[.int .i64 y.1, .slice y.2.x.A y.2.x.l.length y.2.x.c, .int .i64 y.2.s] 84)).alloc (.cells #[.slice none 0 0, .int .i64 0, .int .i64 0, .int .i64 0] 38)) (w.heap.size + 1) 84 #[.int .i64 y.1, .slice y.2.x.A y.2.x.l.length y.2.x.c, .int .i64 y.2.s] := by
    have := (Blk.new (w.alloc (.cells #[.slice A L.length c, .int .i64 last, .int .i64 room, .int .i64 left] 38)) 84 #[.int .i64 y.1, .slice y.2.x.A y.2.x.l.length y.2.x.c, .int .i64 y.2.s]).below ((Below.refl _ _).alloc (Nat.le_refl _) (.cells #[.slice none 0 0, .int .i64 0, .int .i64 0, .int .i64 0] 38))
    rwa [show (w.alloc (.cells #[.slice A L.length c, .int .i64 last, .int .i64 room, .int .i64 left] 38)).heap.size = w.heap.size + 1 by simp] at this
  have x2 : Blk (((w.alloc (.cells #[.slice A L.length c, .int .i64 last, .int .i64 room, .int .i64 left] 38)).alloc (.cells #[.int .i64 y.1, .slice y.2.x.A y.2.x.l.length y.2.x.c, .int .i64 y.2.s] 84)).alloc (.cells #[.slice none 0 0, .int .i64 0, .int .i64 0, .int .i64 0] 38)) (w.heap.size + 1 + 1) 38 #[.slice none 0 0, .int .i64 0, .int .i64 0, .int .i64 0] := by
    have := Blk.new ((w.alloc (.cells #[.slice A L.length c, .int .i64 last, .int .i64 room, .int .i64 left] 38)).alloc (.cells #[.int .i64 y.1, .slice y.2.x.A y.2.x.l.length y.2.x.c, .int .i64 y.2.s] 84)) 38 #[.slice none 0 0, .int .i64 0, .int .i64 0, .int .i64 0]
    rwa [show ((w.alloc (.cells #[.slice A L.length c, .int .i64 last, .int .i64 room, .int .i64 left] 38)).alloc (.cells #[.int .i64 y.1, .slice y.2.x.A y.2.x.l.length y.2.x.c, .int .i64 y.2.s] 84)).heap.size = w.heap.size + 1 + 1 by simp] at this
  have hll := h.len
  have s3 : (((w.alloc (.cells #[.slice A L.length c, .int .i64 last, .int .i64 room, .int .i64 left] 38)).alloc (.cells #[.int .i64 y.1, .slice y.2.x.A y.2.x.l.length y.2.x.c, .int .i64 y.2.s] 84)).alloc (.cells #[.slice none 0 0, .int .i64 0, .int .i64 0, .int .i64 0] 38)).heap.size = w.heap.size + 3 := by simp
  clear h hy
  go_enter Try.func48, Try.ntmps48
  go_upto_region 1 with (fail)
  generalize (((w.alloc (.cells #[.slice A L.length c, .int .i64 last, .int .i64 room, .int .i64 left] 38)).alloc (.cells #[.int .i64 y.1, .slice y.2.x.A y.2.x.l.length y.2.x.c, .int .i64 y.2.s] 84)).alloc (.cells #[.slice none 0 0, .int .i64 0, .int .i64 0, .int .i64 0] 38)) = w3 at *
  have hba : Below w3.heap.size w3 (w3.alloc (.cells #[] 84)) := (Below.refl _ _).alloc (Nat.le_refl _) _
  have HO : Hid (OwF (w3.alloc (.cells #[] 84)) w3.heap.size (some ⟨w.heap.size + 3, 0, none⟩) 0 []) := Lib.hid (by rw [← s3]; exact World.ownsRow_lit (base := w3.heap.size) (e := 84) (size := 3) w3 #[] 0 (Nat.le_refl _) (by simp [maxLen]) (by simp))
  have HR := Lib.hid (((HF.out.below hw3).below hba).rd)
  have q0 := (x0.below hba).cell 0
  simp only [List.getElem?_toArray, List.getElem?_cons_zero] at q0
  go_upto_region 2 with (at_builtin; refine wpList_append_files rfl (.tmp 7) (.tmp 9) rfl rfl HO.out rfl HR.out (by simp; omega) (by simp) ?_; intro A8 c8 w8 ho8 hb8 hk8; (have y0 := x0.below (hba.trans hb8)); (have g0 := y0.cell 0); (have f0 := y0.frozen 0); simp only [List.getElem?_toArray, List.getElem?_cons_zero] at g0)
  have hb38 := hba.trans hb8
  rw [List.nil_append] at ho8
  obtain ⟨g8, rfl, hg8, hgl⟩ := own_off ho8 (by omega)
  have k9 : Fr (fun x => x = w.heap.size) w8 (w8.setCell ⟨w.heap.size, 0, none⟩ (.slice (some ⟨g8, 0, none⟩) L.length c8)) := (Fr.refl (fun x => x = w.heap.size) w8).setAt w.heap.size 0 rfl _
  have z0 := y0.set_ 0 (.slice (some ⟨g8, 0, none⟩) L.length c8)
  simp only [List.setIfInBounds_toArray, List.set_cons_zero] at z0
  have z1 := (x1.below hb38).fr k9 (by omega)
  have z2 := (x2.below hb38).fr k9 (by omega)
  have r9 := (Row.of_own ho8).fr k9 (fun g hg e => by injection hg with hg; have hg' : g8 = g := hg; omega)
  have hw9 : Below w.heap.size w (w8.setCell ⟨w.heap.size, 0, none⟩ (.slice (some ⟨g8, 0, none⟩) L.length c8)) := (hw3.trans (hb38.mono (by omega))).setCell (p := ⟨w.heap.size, 0, none⟩) (Nat.le_refl _) _
  generalize w8.setCell ⟨w.heap.size, 0, none⟩ (.slice (some ⟨g8, 0, none⟩) L.length c8) = w9 at *
  clear ho8 hb8 hk8 y0 g0 f0 hb38 k9 HO HR q0 hba x0 x1 x2 hw3
  have e0 := z0.cell 0
  have a0 := z1.cell 0
  have a1 := z1.cell 1
  have a2 := z1.cell 2
  simp only [List.getElem?_toArray, List.getElem?_cons_zero, List.getElem?_cons_succ] at e0 a0 a1 a2
  have hj : ∀ j, j < 3 → ∃ u, (L.flatMap fileC)[i * 3 + j]? = some u := fun j hj => ⟨_, (flat_get (k := 3) fileC_len L i j hi hj).trans (List.getElem?_eq_getElem (by simpa [fileC] using hj))⟩
  obtain ⟨u0, hu0⟩ := hj 0 (by omega)
  obtain ⟨u1, hu1⟩ := hj 1 (by omega)
  obtain ⟨u2, hu2⟩ := hj 2 (by omega)
  have b0 := r9.cell hu0
  have b1 := r9.cell hu1
  have b2 := r9.cell hu2
  simp only [Nat.zero_add, Nat.add_zero] at b0 b1 b2
  have fz := fun o => r9.frozen o
  have R9 := Lib.hid r9
  clear hu0 hu1 hu2 hj r9
  go_upto_region 3 with (fail)
  have R10 := Lib.hid (row_put R9.out i y hi)
  have k10 : Fr (fun x => x = g8) w9 (((w9.setCell ⟨g8, i * 3, none⟩ (.int .i64 y.1)).setCell ⟨g8, i * 3 + 1, none⟩ (.slice y.2.x.A y.2.x.l.length y.2.x.c)).setCell ⟨g8, i * 3 + 2, none⟩ (.int .i64 y.2.s)) := (((Fr.refl (fun x => x = g8) w9).setAt g8 _ rfl _).setAt g8 _ rfl _).setAt g8 _ rfl _
  have y0 := z0.fr k10 (by omega)
  have y2 := z2.fr k10 (by omega)
  have hwA : Below w.heap.size w (((w9.setCell ⟨g8, i * 3, none⟩ (.int .i64 y.1)).setCell ⟨g8, i * 3 + 1, none⟩ (.slice y.2.x.A y.2.x.l.length y.2.x.c)).setCell ⟨g8, i * 3 + 2, none⟩ (.int .i64 y.2.s)) := hw9.trans (k10.below (B := w.heap.size) hw9.size (fun k hk e => by omega))
  generalize (((w9.setCell ⟨g8, i * 3, none⟩ (.int .i64 y.1)).setCell ⟨g8, i * 3 + 1, none⟩ (.slice y.2.x.A y.2.x.l.length y.2.x.c)).setCell ⟨g8, i * 3 + 2, none⟩ (.int .i64 y.2.s)) = wA at *
  clear b0 b1 b2 fz R9 k10 e0 a0 a1 a2 z0 z1 z2 u0 u1 u2
  have p0 := y0.cell 0
  have p1 := y0.cell 1
  have p2 := y0.cell 2
  have p3 := y0.cell 3
  simp only [List.getElem?_toArray, List.getElem?_cons_zero, List.getElem?_cons_succ] at p0 p1 p2 p3
  have r0 := y2.cell 0
  have r1 := y2.cell 1
  have r2 := y2.cell 2
  have r3 := y2.cell 3
  simp only [List.getElem?_toArray, List.getElem?_cons_zero, List.getElem?_cons_succ] at r0 r1 r2 r3
  have fr := fun o => y2.frozen o
  go_wp2_with fail
  have kR : Fr (fun x => x = w.heap.size + 1 + 1) wA ((((wA.setCell ⟨w.heap.size + 1 + 1, 0, none⟩ (.slice (some ⟨g8, 0, none⟩) L.length c8)).setCell ⟨w.heap.size + 1 + 1, 1, none⟩ (.int .i64 last)).setCell ⟨w.heap.size + 1 + 1, 2, none⟩ (.int .i64 room)).setCell ⟨w.heap.size + 1 + 1, 3, none⟩ (.int .i64 left)) := (((((Fr.refl (fun x => x = w.heap.size + 1 + 1) wA).setAt (w.heap.size + 1 + 1) _ rfl _).setAt (w.heap.size + 1 + 1) _ rfl _).setAt (w.heap.size + 1 + 1) _ rfl _).setAt (w.heap.size + 1 + 1) _ rfl _)
  have yR := ((((y2.set_ 0 (.slice (some ⟨g8, 0, none⟩) L.length c8)).set_ 1 (.int .i64 last)).set_ 2 (.int .i64 room)).set_ 3 (.int .i64 left))
  simp only [List.setIfInBounds_toArray, List.set_cons_zero, List.set_cons_succ] at yR
  have hwR : Below w.heap.size w ((((wA.setCell ⟨w.heap.size + 1 + 1, 0, none⟩ (.slice (some ⟨g8, 0, none⟩) L.length c8)).setCell ⟨w.heap.size + 1 + 1, 1, none⟩ (.int .i64 last)).setCell ⟨w.heap.size + 1 + 1, 2, none⟩ (.int .i64 room)).setCell ⟨w.heap.size + 1 + 1, 3, none⟩ (.int .i64 left)) := hwA.trans (kR.below (B := w.heap.size) hwA.size (fun k hk e => by omega))
  generalize ((((wA.setCell ⟨w.heap.size + 1 + 1, 0, none⟩ (.slice (some ⟨g8, 0, none⟩) L.length c8)).setCell ⟨w.heap.size + 1 + 1, 1, none⟩ (.int .i64 last)).setCell ⟨w.heap.size + 1 + 1, 2, none⟩ (.int .i64 room)).setCell ⟨w.heap.size + 1 + 1, 3, none⟩ (.int .i64 left)) = wR at *
  have s0 := yR.cell 0
  have s1 := yR.cell 1
  have s2 := yR.cell 2
  have s3 := yR.cell 3
  simp only [List.getElem?_toArray, List.getElem?_cons_zero, List.getElem?_cons_succ] at s0 s1 s2 s3
  refine bodyPost_ret (v := .agg #[.slice (some ⟨g8, 0, none⟩) L.length c8, .int .i64 last, .int .i64 room, .int .i64 left]) (by simp [results, Try.results48, go_sem, s0, s1, s2, s3]) rfl ?_
  have R11 := R10.out.fr kR (fun g hg e => by injection hg with hg; have hg' : g8 = g := hg; omega)
  have hls : (L.set i y).length = L.length := List.length_set
  refine ⟨⟨some ⟨g8, 0, none⟩, c8, by rw [hls], row_fls R11 (fun x hx => ?_) (by rw [hls]; exact hll), by have := R11.room; rw [hls] at this; exact this⟩, hwR⟩
  rcases List.mem_or_eq_of_mem_set hx with hx | rfl
  · exact (HF.out.ok x hx).below hwR
  · exact HY.out.below hwR

end Go.Proofs.Ytmdbfhfjaapeoaa

/- Drawn regions in the text's order: operations that only tell what stays so (they may come at any time), others each of which is alone when it comes, and a tail behind all of them. No program. -/
namespace Go.Proofs.Ytmdbfhfjaapeoaa
open Go.RowKit

section
variable {P : Program} {ops : Array Oper} {md : Region.Mode} {C : World → Prop}

/-- nothing but a value -/
def Qz : Exit → Act → World → Prop := fun _ _ _ => False
theorem letsOut_qz : ¬ LetsOut Qz := fun h => by
  obtain ⟨_, _, h⟩ := h
  exact h
theorem Oper.wp_of_z {o : Oper} {a : Act} {w : World} {K : Act → World → Prop} {Q : Exit → Act → World → Prop} (h : o.wp P a w K Qz) : o.wp P a w K Q := by
  unfold Oper.wp at *
  generalize (execOp a.eval o).run P w = r at *
  cases r with
  | ok n w' =>
    cases n <;> simp only [Oper.upon] at h ⊢
    case enter f args =>
      refine Calls.mono h fun e w'' he => ?_
      cases e with
      | returned u => exact he
      | panicked c => exact absurd he (by simp [Qz])
      | outgrown => exact absurd he letsOut_qz
    all_goals first | exact h | exact absurd h (by simp)
  | halt x w' =>
    cases x <;> simp only [Oper.upon] at h ⊢
    case panic u => exact absurd h (by simp [Qz])
theorem wpOp_of_z {i : Nat} {a : Act} {w : World} {K : Act → World → Prop} {Q : Exit → Act → World → Prop} (h : wpOp P ops Qz i K a w) : wpOp P ops Q i K a w := by
  unfold wpOp at *
  split
  · rename_i h0; simpa [h0] using h
  · rename_i o ho
    simp only [ho] at h
    split
    · rename_i hw
      simp only [hw, if_true] at h
      rcases h with h | ⟨_, h⟩
      · exact .inl (Oper.wp_of_z h)
      · exact absurd h letsOut_qz
    · rename_i hw; simpa [hw] using h

/-- in every world of the class it tells v, and nothing turns -/
def StC (P : Program) (ops : Array Oper) (C : World → Prop) (o : Oper) (v : Value) (a : Act) : Prop :=
  (Region.wanted o (yielded ops a.tmps) = true ∧ ∀ w, C w → (execOp a.eval o).run P w = .ok (.value v) w) ∨ (Region.wanted o (yielded ops a.tmps) = false ∧ v = undef)
theorem StC.of_same {o : Oper} {v : Value} {a a' : Act} (hy : StC P ops C o v a) (he : execOp a'.eval o = execOp a.eval o)
    (hw : Region.wanted o (yielded ops a'.tmps) = Region.wanted o (yielded ops a.tmps)) : StC P ops C o v a' := by
  unfold StC at *
  rw [he, hw]
  exact hy
theorem StC.wpOp {i : Nat} {o : Oper} {v : Value} {a : Act} {w : World} {K : Act → World → Prop} {Q : Exit → Act → World → Prop} (hi : ops[i]? = some o) (hy : StC P ops C o v a) (hw : C w)
    (hK : K (a.put o.dst v) w) : wpOp P ops Q i K a w := by
  unfold Go.wpOp
  simp only [hi]
  rcases hy with ⟨hwt, hv⟩ | ⟨hwt, rfl⟩
  · simp only [hwt, if_true, Oper.wp, hv w hw, Oper.upon]
    exact .inl hK
  · simp only [hwt, Bool.false_eq_true, if_false]
    exact hK

theorem wpOp_putC {j : Nat} {oi oj : Oper} {v : Value} (hj : ops[j]? = some oj) (hap : oi.apart ops oj = true)
    (hsi : ∀ cs b, oi.op ≠ .select cs b) (hsj : ∀ cs b, oj.op ≠ .select cs b) {K : Act → World → Prop} {a : Act} {w : World}
    (hy : StC P ops C oi v a) (h : wpOp P ops Qz j K (a.put oi.dst v) w) :
    wpOp P ops Qz j (fun a' w' => StC P ops C oi v a' ∧ K (a'.put oi.dst v) w') a w := by
  obtain ⟨h1, h2, h3⟩ := Oper.apart_spec hap
  have keep : ∀ (a : Act), StC P ops C oi v a → ∀ u, StC P ops C oi v (a.put oj.dst u) := fun a hy u =>
    hy.of_same (execOp_put oi hsi a oj.dst u h3) (wanted_put oi a oj.dst u h3)
  have keepD : ∀ d, StC P ops C oi v { a with defers := d :: a.defers } := fun d => hy.of_same rfl rfl
  unfold wpOp at *
  simp only [hj] at *
  rw [wanted_put oj a oi.dst v h1] at h
  split
  · rename_i hw
    simp only [hw, if_true] at h
    rcases h with h | ⟨_, hlets⟩
    case inr => exact absurd hlets letsOut_qz
    refine .inl ?_
    unfold Oper.wp at *
    rw [execOp_put oj hsj a oi.dst v h1] at h
    generalize (execOp a.eval oj).run P w = r at *
    cases r with
    | ok n w' =>
      cases n <;> simp only [Oper.upon] at h ⊢
      case value u => exact ⟨keep a hy u, by rw [← Act.put_comm a v u h2]; exact h⟩
      case skip => exact ⟨keep a hy _, by rw [← Act.put_comm a v undef h2]; exact h⟩
      case defer d =>
        refine ⟨keep _ (keepD d) _, ?_⟩
        rw [← Act.put_comm _ v undef h2, ← Act.put_defers]
        exact h
      case enter f args =>
        refine Calls.mono h fun e w'' he => ?_
        cases e with
        | returned u => exact ⟨keep a hy u, by rw [← Act.put_comm a v u h2]; exact he⟩
        | panicked c => exact absurd he (by simp [Qz])
        | outgrown => exact he
      case row row args => exact Rows.mono h fun u w'' he => ⟨keep a hy u, by rw [← Act.put_comm a v u h2]; exact he⟩
    | halt x w' =>
      cases x <;> simp only [Oper.upon] at h ⊢
      case panic u => exact absurd h (by simp [Qz])
  · rename_i hw
    simp only [hw] at h
    exact ⟨keep a hy _, by rw [← Act.put_comm a v undef h2]; exact h⟩

/-- so many operations below m, each of which may come up, then E -/
def wpAnyT (P : Program) (md : Region.Mode) (ops : Array Oper) (C : World → Prop) (m : Nat) (E : Array Bool → Act → World → Prop) : Nat → Array Bool → Act → World → Prop
  | 0, listed, a, w => C w ∧ (∀ j ∈ Region.ready md ops listed, m ≤ j) ∧ E listed a w
  | k + 1, listed, a, w => C w ∧ Region.ready md ops listed ≠ [] ∧ ∀ i ∈ Region.ready md ops listed, i < m ∧ wpOp P ops Qz i (wpAnyT P md ops C m E k (listed.setIfInBounds i true)) a w
theorem wpAnyT.c {m k : Nat} {E : Array Bool → Act → World → Prop} {listed : Array Bool} {a : Act} {w : World} (h : wpAnyT P md ops C m E k listed a w) : C w := by
  cases k with
  | zero => exact h.1
  | succ k => exact h.1

theorem wpAnyT_first {m i : Nat} {oi : Oper} {v : Value} {E : Array Bool → Act → World → Prop} (hi : ops[i]? = some oi) (him : i < m) (hsel : ∀ (j : Nat) (o : Oper) cs b, ops[j]? = some o → o.op ≠ .select cs b) (hT : TailWaitsB md ops m) :
    ∀ (fuel : Nat) (listed : Array Bool) (a : Act) (w : World), HeadInv md ops m listed →
      (∀ j oj, ops[j]? = some oj → j ≠ i → listed.getD j true = false → (∀ e ∈ oj.after, Region.binds md e = true → e.on ≠ i) → oi.apart ops oj = true) →
      i ∈ Region.ready md ops listed → StC P ops C oi v a →
      wpAnyT P md ops C m E fuel (listed.setIfInBounds i true) (a.put oi.dst v) w → wpAnyT P md ops C m E (fuel + 1) listed a w := by
  intro fuel
  induction fuel with
  | zero =>
    intro listed a w inv _ hr hy H
    refine ⟨H.c, fun h => (by rw [h] at hr; cases hr), fun j hj => ?_⟩
    by_cases hji : j = i
    · subst hji; exact ⟨him, hy.wpOp hi H.c H⟩
    · have h1 := H.2.1 j (ready_mono hj hji)
      have h2 := hT listed inv i him (mem_ready.1 hr).1 j hj
      omega
  | succ fuel ih =>
    intro listed a w inv hfree hr hy H
    refine ⟨H.c, fun h => (by rw [h] at hr; cases hr), fun j hj => ?_⟩
    by_cases hji : j = i
    · subst hji; exact ⟨him, hy.wpOp hi H.c H⟩
    · obtain ⟨hjm, h1⟩ := H.2.2 j (ready_mono hj hji)
      obtain ⟨hjun, oj, hoj, hall⟩ := mem_ready.1 hj
      have hnot : ∀ e ∈ oj.after, Region.binds md e = true → e.on ≠ i := fun e he hb heq => by
        have h1 := hall e he hb
        rw [heq, getD_both (mem_ready.1 hr).1] at h1
        cases h1
      have h2 := wpOp_putC hoj (hfree j oj hoj hji hjun hnot) (fun cs b => hsel i oi cs b hi) (fun cs b => hsel j oj cs b hoj) hy h1
      have hfree' : ∀ k ok, ops[k]? = some ok → k ≠ i → (listed.setIfInBounds j true).getD k true = false →
          (∀ e ∈ ok.after, Region.binds md e = true → e.on ≠ i) → oi.apart ops ok = true := fun k ok hk hki hun hno => by
        refine hfree k ok hk hki ?_ hno
        by_cases hjk : j = k
        · subst hjk; exact hjun
        · rw [getD_set_ne true hjk] at hun; exact hun
      refine ⟨hjm, wpOp_mono (fun a' w' h3 => ih (listed.setIfInBounds j true) a' w' (inv.set hj hjm) hfree' (ready_mono hr (Ne.symm hji)) h3.1 ?_) h2⟩
      rw [Array.setIfInBounds_comm _ _ hji]
      exact h3.2

theorem wpAny_of_T {m g : Nat} {E : Array Bool → Act → World → Prop} {Q : Exit → Act → World → Prop} (hE : ∀ listed a w, E listed a w → wpAny P md ops Q g listed a w) :
    ∀ (k : Nat) (listed : Array Bool) (a : Act) (w : World), wpAnyT P md ops C m E k listed a w → wpAny P md ops Q (k + g) listed a w
  | 0, listed, a, w, h => by rw [Nat.zero_add]; exact hE _ _ _ h.2.2
  | k + 1, listed, a, w, h => by
    rw [show k + 1 + g = (k + g) + 1 by omega]
    exact ⟨fun h0 => absurd h0 h.2.1, fun j hj => wpOp_mono (fun a' w' h' => wpAny_of_T hE k _ a' w' h') (wpOp_of_z (h.2.2 j hj).2)⟩

/-- the walk in the text's order: true: it only tells; false: it is alone -/
def wpMix (P : Program) (ops : Array Oper) (C : World → Prop) (E : Act → World → Prop) : List Bool → List Oper → Act → World → Prop
  | [], [], a, w => C w ∧ E a w
  | true :: ks, o :: l, a, w => ∃ v, StC P ops C o v a ∧ wpMix P ops C E ks l (a.put o.dst v) w
  | false :: ks, o :: l, a, w => C w ∧ ((Region.wanted o (yielded ops a.tmps) = true ∧ o.wp P a w (wpMix P ops C E ks l) Qz) ∨ (Region.wanted o (yielded ops a.tmps) = false ∧ wpMix P ops C E ks l (a.put o.dst undef) w))
  | _, _, _, _ => False
/-- nobody looks into it -/
structure MixW (P : Program) (ops : Array Oper) (C : World → Prop) (E : Act → World → Prop) (ks : List Bool) (l : List Oper) (a : Act) (w : World) : Prop where
  go : wpMix P ops C E ks l a w

def mixB (md : Region.Mode) (ops : Array Oper) (g : Nat) : List Bool → Nat → Array Bool → Bool
  | [], k, listed => Region.seqB md ops g k listed
  | true :: ks, k, listed => (Region.ready md ops listed).contains k && Region.free md ops listed k && mixB md ops g ks (k + 1) (listed.setIfInBounds k true)
  | false :: ks, k, listed => decide (Region.ready md ops listed = [k]) && mixB md ops g ks (k + 1) (listed.setIfInBounds k true)

theorem mix_lex {m g : Nat} {Lq : Act → World → Prop} (hsel : ∀ (j : Nat) (o : Oper) cs b, ops[j]? = some o → o.op ≠ .select cs b) (hT : TailWaitsB md ops m) :
    ∀ (ks : List Bool) (l : List Oper) (k : Nat) (listed : Array Bool) (a : Act) (w : World), (∀ j, j < l.length → l[j]? = ops[k + j]?) → k + l.length = m → HeadInv md ops m listed →
    mixB md ops g ks k listed = true → wpMix P ops C Lq ks l a w →
    wpAnyT P md ops C m (fun listed' a' w' => Region.seqB md ops g m listed' = true ∧ Lq a' w') l.length listed a w
  | [], [], k, listed, a, w, _, hk, _, hB, h => by
    have : k = m := by simpa using hk
    subst this
    exact ⟨h.1, seqB_ready hB, hB, h.2⟩
  | true :: ks, o :: l, k, listed, a, w, hl, hk, inv, hB, h => by
    have h0 : ops[k]? = some o := by simpa using (hl 0 (by simp)).symm
    simp only [mixB, Bool.and_eq_true] at hB
    obtain ⟨⟨hr, hf⟩, hB'⟩ := hB
    have hkm : k < m := by simp only [List.length_cons] at hk; omega
    have hr' : k ∈ Region.ready md ops listed := by simpa using hr
    obtain ⟨v, hy, h'⟩ := h
    exact wpAnyT_first h0 hkm hsel hT _ listed a w inv (Region.free_spec h0 hf) hr' hy
      (mix_lex hsel hT ks l (k + 1) _ _ w (fun j hj => by have := hl (j + 1) (by simp; omega); simpa [Nat.add_assoc, Nat.add_comm 1 j] using this) (by simp only [List.length_cons] at hk; omega) (inv.set hr' hkm) hB' h')
  | false :: ks, o :: l, k, listed, a, w, hl, hk, inv, hB, h => by
    have h0 : ops[k]? = some o := by simpa using (hl 0 (by simp)).symm
    simp only [mixB, Bool.and_eq_true, decide_eq_true_eq] at hB
    obtain ⟨hr, hB'⟩ := hB
    have hkm : k < m := by simp only [List.length_cons] at hk; omega
    obtain ⟨hc, h'⟩ := h
    refine ⟨hc, fun h1 => (by rw [hr] at h1; cases h1), fun i hi => ?_⟩
    have hi' := hi
    rw [hr] at hi
    have hik : i = k := by simpa using hi
    subst hik
    refine ⟨hkm, ?_⟩
    have rec_ : ∀ a' w', wpMix P ops C Lq ks l a' w' → wpAnyT P md ops C m (fun listed' a' w' => Region.seqB md ops g m listed' = true ∧ Lq a' w') l.length (listed.setIfInBounds i true) a' w' := fun a' w' h2 =>
      mix_lex hsel hT ks l (i + 1) _ a' w' (fun j hj => by have := hl (j + 1) (by simp; omega); simpa [Nat.add_assoc, Nat.add_comm 1 j] using this) (by simp only [List.length_cons] at hk; omega) (inv.set hi' hkm) hB' h2
    unfold wpOp
    simp only [h0]
    rcases h' with ⟨hw, h'⟩ | ⟨hw, h'⟩
    · simp only [hw, if_true]
      exact .inl (Oper.wp_mono rec_ h')
    · simp only [hw, Bool.false_eq_true, if_false]
      exact rec_ _ _ h'
  | [], _ :: _, _, _, _, _, _, _, _, _, h => h.elim
  | true :: _, [], _, _, _, _, _, _, _, _, h => h.elim
  | false :: _, [], _, _, _, _, _, _, _, _, h => h.elim

/-- the first operations by kinds, the rest one behind the other -/
theorem wp_region_m {id : Nat} {Q : Exit → Act → World → Prop} {a : Act} {w : World} {l : List Oper} (ks : List Bool) (C : World → Prop) (hm : P.follows .mixedOrders = true)
    (hB : (tailOkB l.toArray ks.length && mixB .any l.toArray (l.toArray.size - ks.length) ks 0 (Array.replicate l.toArray.size false)) = true)
    (h : MixW P l.toArray C (fun a' w' => wpList P l.toArray Q (l.drop ks.length) a' w') ks (l.take ks.length) a w.drew) : (Code.region id l.toArray true).wp P Q a w := by
  rw [Bool.and_eq_true] at hB
  obtain ⟨hok, hlex⟩ := hB
  obtain ⟨hsel, hnl, hT⟩ := tailOkB_spec hok
  have htl : (l.take ks.length).length = ks.length := by simp at hnl ⊢; omega
  have hdl : (l.drop ks.length).length = l.toArray.size - ks.length := by simp
  have H := mix_lex (P := P) (md := .any) (m := ks.length) (g := l.toArray.size - ks.length) (Region.noSelect_spec hsel) hT ks (l.take ks.length) 0 _ a w.drew (fun j hj => by
    have hj' : j < ks.length := by rw [htl] at hj; exact hj
    simp [hj']) (by rw [htl]; omega) (inv_new ks.length) hlex h.go
  refine wp_region_any hm ?_
  have := wpAny_of_T (Q := Q) (g := l.toArray.size - ks.length) (fun listed a' w' hL => by
    have := wpAny_of_seq (md := .any) (Q' := Q) (l.drop ks.length) ks.length listed a' w' (fun j => by simp [List.getElem?_drop]) (by rw [hdl]; exact hL.1) hL.2
    rwa [hdl] at this) _ _ _ _ H
  rw [htl, show ks.length + (l.toArray.size - ks.length) = l.toArray.size by omega] at this
  exact this

variable {E : Act → World → Prop} {ks : List Bool} {o : Oper} {rest : List Oper} {a : Act} {w : World}
theorem mx_skip (hw : Region.wanted o (yielded ops a.tmps) = false) (h : ∃ a', a.put o.dst undef = a' ∧ MixW P ops C E ks rest a' w) : MixW P ops C E (true :: ks) (o :: rest) a w := by
  obtain ⟨a', ha, h⟩ := h
  exact ⟨undef, .inr ⟨hw, rfl⟩, by rw [ha]; exact h.go⟩
theorem mx_val (hw : Region.wanted o (yielded ops a.tmps) = true) (h : ∃ v, (∀ w, C w → (execOp a.eval o).run P w = .ok (.value v) w) ∧ ∃ a', a.put o.dst v = a' ∧ MixW P ops C E ks rest a' w) : MixW P ops C E (true :: ks) (o :: rest) a w := by
  obtain ⟨v, hv, a', ha, h⟩ := h
  exact ⟨v, .inl ⟨hw, hv⟩, by rw [ha]; exact h.go⟩
theorem mx_move (x : Operand) (hw : Region.wanted o (yielded ops a.tmps) = true) (hop : o.op = .move x) (h : ∃ v, a.eval x = v ∧ ∃ a', a.put o.dst v = a' ∧ MixW P ops C E ks rest a' w) : MixW P ops C E (true :: ks) (o :: rest) a w := by
  obtain ⟨v, hv, h⟩ := h
  exact mx_val hw ⟨v, fun w _ => by rw [BigFrame.run_move x hop, hv], h⟩
theorem mx_assign (x : Operand) (hw : Region.wanted o (yielded ops a.tmps) = true) (hop : o.op = .assign x) (h : ∃ v, a.eval x = v ∧ ∃ a', a.put o.dst v = a' ∧ MixW P ops C E ks rest a' w) : MixW P ops C E (true :: ks) (o :: rest) a w := by
  obtain ⟨v, hv, h⟩ := h
  exact mx_val hw ⟨v, fun w _ => by rw [BigFrame.run_assign x hop, hv], h⟩
/-- alone: a value, and a world -/
theorem mx_alone (hc : C w) (hw : Region.wanted o (yielded ops a.tmps) = true) (h : ∃ v w', (execOp a.eval o).run P w = .ok (.value v) w' ∧ ∃ a', a.put o.dst v = a' ∧ MixW P ops C E ks rest a' w') : MixW P ops C E (false :: ks) (o :: rest) a w := by
  obtain ⟨v, w', hv, a', ha, h⟩ := h
  refine ⟨hc, .inl ⟨hw, ?_⟩⟩
  unfold Oper.wp
  rw [hv]
  show wpMix P ops C E ks rest (a.put o.dst v) w'
  rw [ha]
  exact h.go
/-- alone: a call -/
theorem mx_call {f : FuncId} {args : Array Value} {R : Ending → World → Prop} (hc : C w) (hw : Region.wanted o (yielded ops a.tmps) = true) (hv : (execOp a.eval o).run P w = .ok (.enter f args) w) (hcall : Calls P f args w R)
    (h : ∀ e w', R e w' → ∃ v, e = .returned v ∧ ∃ a', a.put o.dst v = a' ∧ MixW P ops C E ks rest a' w') : MixW P ops C E (false :: ks) (o :: rest) a w := by
  refine ⟨hc, .inl ⟨hw, ?_⟩⟩
  unfold Oper.wp
  rw [hv]
  refine hcall.mono fun e w' he => ?_
  obtain ⟨v, rfl, a', ha, h⟩ := h e w' he
  show wpMix P ops C E ks rest (a.put o.dst v) w'
  rw [ha]
  exact h.go
theorem mx_idle (hc : C w) (hw : Region.wanted o (yielded ops a.tmps) = false) (h : ∃ a', a.put o.dst undef = a' ∧ MixW P ops C E ks rest a' w) : MixW P ops C E (false :: ks) (o :: rest) a w := by
  obtain ⟨a', ha, h⟩ := h
  exact ⟨hc, .inr ⟨hw, by rw [ha]; exact h.go⟩⟩
theorem mx_end (hc : C w) (h : E a w) : MixW P ops C E [] [] a w := ⟨hc, h⟩
end
end Go.Proofs.Ytmdbfhfjaapeoaa

/- Drawn regions in an order of ours: as Mix, but the operations are told in any order that the region may have. No program. -/
namespace Go.Proofs.Ytmdbfhfjaapeoaa
open Go.RowKit

section
variable {P : Program} {ops : Array Oper} {md : Region.Mode} {C : World → Prop}
def mixP (md : Region.Mode) (ops : Array Oper) (g m : Nat) : List (Nat × Bool) → Array Bool → Bool
  | [], listed => Region.seqB md ops g m listed
  | (k, true) :: ks, listed => decide (k < m) && (Region.ready md ops listed).contains k && Region.free md ops listed k && mixP md ops g m ks (listed.setIfInBounds k true)
  | (k, false) :: ks, listed => decide (k < m) && decide (Region.ready md ops listed = [k]) && mixP md ops g m ks (listed.setIfInBounds k true)
theorem mix_perm {m g : Nat} {Lq : Act → World → Prop} (hsel : ∀ (j : Nat) (o : Oper) cs b, ops[j]? = some o → o.op ≠ .select cs b) (hT : TailWaitsB md ops m) :
    ∀ (ks : List (Nat × Bool)) (l : List Oper) (listed : Array Bool) (a : Act) (w : World), l.map some = ks.map (fun x => ops[x.1]?) → HeadInv md ops m listed →
    mixP md ops g m ks listed = true → wpMix P ops C Lq (ks.map (·.2)) l a w →
    wpAnyT P md ops C m (fun listed' a' w' => Region.seqB md ops g m listed' = true ∧ Lq a' w') l.length listed a w
  | [], [], listed, a, w, _, _, hB, h => ⟨h.1, seqB_ready hB, hB, h.2⟩
  | (k, true) :: ks, o :: l, listed, a, w, hl, inv, hB, h => by
    simp only [List.map_cons, List.cons.injEq] at hl
    have h0 : ops[k]? = some o := hl.1.symm
    simp only [mixP, Bool.and_eq_true, decide_eq_true_eq] at hB
    obtain ⟨⟨⟨hkm, hr⟩, hf⟩, hB'⟩ := hB
    have hr' : k ∈ Region.ready md ops listed := by simpa using hr
    obtain ⟨v, hy, h'⟩ := h
    exact wpAnyT_first h0 hkm hsel hT _ listed a w inv (Region.free_spec h0 hf) hr' hy (mix_perm hsel hT ks l _ _ w hl.2 (inv.set hr' hkm) hB' h')
  | (k, false) :: ks, o :: l, listed, a, w, hl, inv, hB, h => by
    simp only [List.map_cons, List.cons.injEq] at hl
    have h0 : ops[k]? = some o := hl.1.symm
    simp only [mixP, Bool.and_eq_true, decide_eq_true_eq] at hB
    obtain ⟨⟨hkm, hr⟩, hB'⟩ := hB
    obtain ⟨hc, h'⟩ := h
    refine ⟨hc, fun h1 => (by rw [hr] at h1; cases h1), fun i hi => ?_⟩
    have hi' := hi
    rw [hr] at hi
    have hik : i = k := by simpa using hi
    subst hik
    refine ⟨hkm, ?_⟩
    have rec_ : ∀ a' w', wpMix P ops C Lq (ks.map (·.2)) l a' w' → wpAnyT P md ops C m (fun listed' a' w' => Region.seqB md ops g m listed' = true ∧ Lq a' w') l.length (listed.setIfInBounds i true) a' w' := fun a' w' h2 =>
      mix_perm hsel hT ks l _ a' w' hl.2 (inv.set hi' hkm) hB' h2
    unfold wpOp
    simp only [h0]
    rcases h' with ⟨hw, h'⟩ | ⟨hw, h'⟩
    · simp only [hw, if_true]
      exact .inl (Oper.wp_mono rec_ h')
    · simp only [hw, Bool.false_eq_true, if_false]
      exact rec_ _ _ h'
  | [], _ :: _, _, _, _, hl, _, _, _ => by simp at hl
  | (_, true) :: _, [], _, _, _, hl, _, _, _ => by simp at hl
  | (_, false) :: _, [], _, _, _, hl, _, _, _ => by simp at hl
theorem filterMap_some (l : List Oper) : ∀ (ks : List (Nat × Bool)), ks.all (fun x => decide (x.1 < l.length)) = true → (ks.filterMap fun x => l[x.1]?).map some = ks.map (fun x => l.toArray[x.1]?)
  | [], _ => rfl
  | x :: ks, h => by
    simp only [List.all_cons, Bool.and_eq_true, decide_eq_true_eq] at h
    have ih := filterMap_some l ks h.2
    rw [List.filterMap_cons, List.getElem?_eq_getElem h.1]
    simp only [List.map_cons]
    rw [ih, show l.toArray[x.1]? = some l[x.1] by simp [h.1]]
/-- the first operations in an order of ours, by kinds; the rest one behind the other -/
theorem wp_region_p {id : Nat} {Q : Exit → Act → World → Prop} {a : Act} {w : World} {l : List Oper} (ks : List (Nat × Bool)) (C : World → Prop) (hm : P.follows .mixedOrders = true)
    (hB : (ks.all (fun x => decide (x.1 < l.length)) && tailOkB l.toArray ks.length && mixP .any l.toArray (l.toArray.size - ks.length) ks.length ks (Array.replicate l.toArray.size false)) = true)
    (h : MixW P l.toArray C (fun a' w' => wpList P l.toArray Q (l.drop ks.length) a' w') (ks.map (·.2)) (ks.filterMap fun x => l[x.1]?) a w.drew) : (Code.region id l.toArray true).wp P Q a w := by
  rw [Bool.and_eq_true, Bool.and_eq_true] at hB
  obtain ⟨⟨hall, hok⟩, hlex⟩ := hB
  obtain ⟨hsel, hnl, hT⟩ := tailOkB_spec hok
  have hfm := filterMap_some l ks hall
  have hfl : (ks.filterMap fun x => l[x.1]?).length = ks.length := by simpa using congrArg List.length hfm
  have hdl : (l.drop ks.length).length = l.toArray.size - ks.length := by simp
  have H := mix_perm (P := P) (md := .any) (m := ks.length) (g := l.toArray.size - ks.length) (Region.noSelect_spec hsel) hT ks _ _ a w.drew hfm (inv_new ks.length) hlex h.go
  refine wp_region_any hm ?_
  have := wpAny_of_T (Q := Q) (g := l.toArray.size - ks.length) (fun listed a' w' hL => by
    have := wpAny_of_seq (md := .any) (Q' := Q) (l.drop ks.length) ks.length listed a' w' (fun j => by simp [List.getElem?_drop]) (by rw [hdl]; exact hL.1) hL.2
    rwa [hdl] at this) _ _ _ _ H
  rw [hfl, show ks.length + (l.toArray.size - ks.length) = l.toArray.size by simp at hnl ⊢; omega] at this
  exact this
end
end Go.Proofs.Ytmdbfhfjaapeoaa

/- Drawn regions with two operations that make memory, neither of which waits for the other: both orders, and one continuation. No program. -/
namespace Go.Proofs.Ytmdbfhfjaapeoaa
open Go.RowKit

section
variable {P : Program} {ops : Array Oper} {md : Region.Mode} {C : World → Prop}
def mix2 (md : Region.Mode) (ops : Array Oper) (g m i j : Nat) (ks2 : List (Nat × Bool)) : List Nat → Array Bool → Bool
  | [], listed => decide (i < m) && decide (j < m) && decide (Region.ready md ops listed = [i, j]) && decide (Region.ready md ops (listed.setIfInBounds i true) = [j]) && decide (Region.ready md ops (listed.setIfInBounds j true) = [i]) &&
      mixP md ops g m ks2 ((listed.setIfInBounds i true).setIfInBounds j true) && mixP md ops g m ks2 ((listed.setIfInBounds j true).setIfInBounds i true)
  | k :: ks, listed => decide (k < m) && (Region.ready md ops listed).contains k && Region.free md ops listed k && mix2 md ops g m i j ks2 ks (listed.setIfInBounds k true)
theorem alone_step {m g i j : Nat} {Lq : Act → World → Prop} (hsel : ∀ (j : Nat) (o : Oper) cs b, ops[j]? = some o → o.op ≠ .select cs b) (hT : TailWaitsB md ops m)
    {oi oj : Oper} (hi : ops[i]? = some oi) (hj : ops[j]? = some oj) {listed : Array Bool} {a : Act} {w : World} (inv : HeadInv md ops m listed) (him : i < m) (hjm : j < m) (hri : i ∈ Region.ready md ops listed)
    (hr : Region.ready md ops (listed.setIfInBounds i true) = [j]) {ks2 : List (Nat × Bool)} {l2 : List Oper} (hl2 : l2.map some = ks2.map (fun x => ops[x.1]?)) (hs : mixP md ops g m ks2 ((listed.setIfInBounds i true).setIfInBounds j true) = true)
    (h : wpMix P ops C Lq (false :: false :: ks2.map (·.2)) (oi :: oj :: l2) a w) : i < m ∧ wpOp P ops Qz i (wpAnyT P md ops C m (fun listed' a' w' => Region.seqB md ops g m listed' = true ∧ Lq a' w') (l2.length + 1) (listed.setIfInBounds i true)) a w := by
  refine ⟨him, ?_⟩
  have rec_ : ∀ a' w', wpMix P ops C Lq (false :: ks2.map (·.2)) (oj :: l2) a' w' → wpAnyT P md ops C m (fun listed' a' w' => Region.seqB md ops g m listed' = true ∧ Lq a' w') (l2.length + 1) (listed.setIfInBounds i true) a' w' := fun a' w' h2 =>
    mix_perm hsel hT ((j, false) :: ks2) (oj :: l2) _ a' w' (by simp [hj, hl2]) (inv.set hri him) (by simp [mixP, hjm, hr, hs]) h2
  obtain ⟨_, h'⟩ := h
  unfold wpOp
  simp only [hi]
  rcases h' with ⟨hw, h'⟩ | ⟨hw, h'⟩
  · simp only [hw, if_true]
    exact .inl (Oper.wp_mono rec_ h')
  · simp only [hw, Bool.false_eq_true, if_false]
    exact rec_ _ _ h'
theorem mix_two {m g i j : Nat} {Lq : Act → World → Prop} (hsel : ∀ (j : Nat) (o : Oper) cs b, ops[j]? = some o → o.op ≠ .select cs b) (hT : TailWaitsB md ops m)
    {oi oj : Oper} (hi : ops[i]? = some oi) (hj : ops[j]? = some oj) {ks2 : List (Nat × Bool)} {l2 : List Oper} (hl2 : l2.map some = ks2.map (fun x => ops[x.1]?)) :
    ∀ (ks : List Nat) (l : List Oper) (listed : Array Bool) (a : Act) (w : World), l.map some = ks.map (fun x => ops[x]?) → HeadInv md ops m listed →
    mix2 md ops g m i j ks2 ks listed = true → wpMix P ops C (fun a' w' => MixW P ops C Lq (false :: false :: ks2.map (·.2)) (oi :: oj :: l2) a' w' ∧ MixW P ops C Lq (false :: false :: ks2.map (·.2)) (oj :: oi :: l2) a' w') (ks.map fun _ => true) l a w →
    wpAnyT P md ops C m (fun listed' a' w' => Region.seqB md ops g m listed' = true ∧ Lq a' w') (l.length + (l2.length + 2)) listed a w
  | [], [], listed, a, w, _, inv, hB, h => by
    simp only [mix2, Bool.and_eq_true, decide_eq_true_eq] at hB
    obtain ⟨⟨⟨⟨⟨⟨him, hjm⟩, hr⟩, hri⟩, hrj⟩, hs1⟩, hs2⟩ := hB
    obtain ⟨hc, h1, h2⟩ := h
    rw [List.length_nil, Nat.zero_add]
    refine ⟨hc, fun h => (by rw [hr] at h; cases h), fun x hx => ?_⟩
    have hx' := hx
    rw [hr] at hx
    rcases List.mem_cons.1 hx with rfl | hx
    · exact alone_step hsel hT hi hj inv him hjm hx' hri hl2 hs1 h1.go
    · obtain rfl := List.mem_singleton.1 hx
      exact alone_step hsel hT hj hi inv hjm him hx' hrj hl2 hs2 h2.go
  | k :: ks, o :: l, listed, a, w, hl, inv, hB, h => by
    simp only [List.map_cons, List.cons.injEq] at hl
    have h0 : ops[k]? = some o := hl.1.symm
    simp only [mix2, Bool.and_eq_true, decide_eq_true_eq] at hB
    obtain ⟨⟨⟨hkm, hr⟩, hf⟩, hB'⟩ := hB
    have hr' : k ∈ Region.ready md ops listed := by simpa using hr
    obtain ⟨v, hy, h'⟩ := h
    have := wpAnyT_first h0 hkm hsel hT _ listed a w inv (Region.free_spec h0 hf) hr' hy (mix_two hsel hT hi hj hl2 ks l _ _ w hl.2 (inv.set hr' hkm) hB' h')
    rwa [show l.length + (l2.length + 2) + 1 = (o :: l).length + (l2.length + 2) by simp only [List.length_cons]; omega] at this
  | [], _ :: _, _, _, _, hl, _, _, _ => by simp at hl
  | _ :: _, [], _, _, _, hl, _, _, _ => by simp at hl
theorem filterMap_someN (l : List Oper) : ∀ (ks : List Nat), ks.all (fun x => decide (x < l.length)) = true → (ks.filterMap fun x => l[x]?).map some = ks.map (fun x => l.toArray[x]?)
  | [], _ => rfl
  | x :: ks, h => by
    simp only [List.all_cons, Bool.and_eq_true, decide_eq_true_eq] at h
    have ih := filterMap_someN l ks h.2
    rw [List.filterMap_cons, List.getElem?_eq_getElem h.1]
    simp only [List.map_cons]
    rw [ih, show l.toArray[x]? = some l[x] by simp [h.1]]
/-- operations that tell, in an order of ours; two that are alone, in either order; more, by kinds; the rest one behind the other -/
theorem wp_region_2 {id : Nat} {Q : Exit → Act → World → Prop} {a : Act} {w : World} {l : List Oper} (ks : List Nat) (i j : Nat) (ks2 : List (Nat × Bool)) (n : Nat) (C : World → Prop) {oi oj : Oper} (hi : l.toArray[i]? = some oi) (hj : l.toArray[j]? = some oj) (hn : n = ks.length + (ks2.length + 2)) (hm : P.follows .mixedOrders = true)
    (hB : (ks.all (fun x => decide (x < l.length)) && ks2.all (fun x => decide (x.1 < l.length)) && tailOkB l.toArray n && mix2 .any l.toArray (l.toArray.size - n) n i j ks2 ks (Array.replicate l.toArray.size false)) = true)
    (h : MixW P l.toArray C (fun a' w' => MixW P l.toArray C (fun a' w' => wpList P l.toArray Q (l.drop n) a' w') (false :: false :: ks2.map (·.2)) (oi :: oj :: ks2.filterMap fun x => l[x.1]?) a' w' ∧ MixW P l.toArray C (fun a' w' => wpList P l.toArray Q (l.drop n) a' w') (false :: false :: ks2.map (·.2)) (oj :: oi :: ks2.filterMap fun x => l[x.1]?) a' w') (ks.map fun _ => true) (ks.filterMap fun x => l[x]?) a w.drew) : (Code.region id l.toArray true).wp P Q a w := by
  rw [Bool.and_eq_true, Bool.and_eq_true, Bool.and_eq_true] at hB
  obtain ⟨⟨⟨hall, hall2⟩, hok⟩, hlex⟩ := hB
  obtain ⟨hsel, hnl, hT⟩ := tailOkB_spec hok
  have hfm := filterMap_someN l ks hall
  have hfm2 := filterMap_some l ks2 hall2
  have hfl : (ks.filterMap fun x => l[x]?).length = ks.length := by simpa using congrArg List.length hfm
  have hfl2 : (ks2.filterMap fun x => l[x.1]?).length = ks2.length := by simpa using congrArg List.length hfm2
  have hdl : (l.drop n).length = l.toArray.size - n := by simp
  have H := mix_two (P := P) (md := .any) (m := n) (g := l.toArray.size - n) (Region.noSelect_spec hsel) hT hi hj hfm2 ks _ _ a w.drew hfm (inv_new _) hlex h.go
  refine wp_region_any hm ?_
  have := wpAny_of_T (Q := Q) (g := l.toArray.size - n) (fun listed a' w' hL => by
    have := wpAny_of_seq (md := .any) (Q' := Q) (l.drop n) n listed a' w' (fun j => by simp [List.getElem?_drop]) (by rw [hdl]; exact hL.1) hL.2
    rwa [hdl] at this) _ _ _ _ H
  rw [hfl, hfl2, show ks.length + (ks2.length + 2) + (l.toArray.size - n) = l.toArray.size by simp at hnl ⊢; omega] at this
  exact this
/-- the same, with the operations picked out of the region's row -/
theorem wp_region_two {id : Nat} {Q : Exit → Act → World → Prop} {a : Act} {w : World} {l : List Oper} (ks : List Nat) (i j : Nat) (ks2 : List (Nat × Bool)) (n : Nat) (C : World → Prop) (hm : P.follows .mixedOrders = true) (hn : n = ks.length + (ks2.length + 2))
    (hB : (decide (i < l.length) && decide (j < l.length) && (ks.all (fun x => decide (x < l.length)) && ks2.all (fun x => decide (x.1 < l.length)) && tailOkB l.toArray n && mix2 .any l.toArray (l.toArray.size - n) n i j ks2 ks (Array.replicate l.toArray.size false))) = true)
    (h : MixW P l.toArray C (fun a' w' => MixW P l.toArray C (fun a' w' => wpList P l.toArray Q (l.drop n) a' w') (false :: false :: ks2.map (·.2)) (([i, j] ++ ks2.map (·.1)).filterMap fun x => l[x]?) a' w' ∧ MixW P l.toArray C (fun a' w' => wpList P l.toArray Q (l.drop n) a' w') (false :: false :: ks2.map (·.2)) (([j, i] ++ ks2.map (·.1)).filterMap fun x => l[x]?) a' w') (ks.map fun _ => true) (ks.filterMap fun x => l[x]?) a w.drew) : (Code.region id l.toArray true).wp P Q a w := by
  rw [Bool.and_eq_true, Bool.and_eq_true, decide_eq_true_eq, decide_eq_true_eq] at hB
  obtain ⟨⟨hi, hj⟩, hB⟩ := hB
  refine wp_region_2 ks i j ks2 n C (oi := l[i]) (oj := l[j]) (by simp [hi]) (by simp [hj]) hn hm hB ?_
  have e : (ks2.map (·.1)).filterMap (fun x => l[x]?) = ks2.filterMap fun x => l[x.1]? := by rw [List.filterMap_map]; rfl
  simpa [List.filterMap_cons, hi, hj, e] using h
theorem wpMix_mono {E E' : Act → World → Prop} (hh : ∀ a' w', E a' w' → E' a' w') : ∀ (ks : List Bool) (l : List Oper) (a : Act) (w : World), wpMix P ops C E ks l a w → wpMix P ops C E' ks l a w
  | [], [], _, _, h => ⟨h.1, hh _ _ h.2⟩
  | true :: ks, _ :: l, _, _, ⟨v, hy, h⟩ => ⟨v, hy, wpMix_mono hh ks l _ _ h⟩
  | false :: ks, _ :: l, _, _, h => ⟨h.1, h.2.imp (fun h => ⟨h.1, Oper.wp_mono (fun a' w' => wpMix_mono hh ks l a' w') h.2⟩) (fun h => ⟨h.1, wpMix_mono hh ks l _ _ h.2⟩)⟩
  | [], _ :: _, _, _, h => h.elim
  | true :: _, [], _, _, h => h.elim
  | false :: _, [], _, _, h => h.elim
theorem wpMix_two {E : Act → World → Prop} {ks : List Bool} {l : List Oper} {o o' : Oper} {a : Act} {w : World} (h : wpMix P ops C (fun a' w' => wpMix P ops C E ks l a' w') [false, false] [o, o'] a w) : wpMix P ops C E (false :: false :: ks) (o :: o' :: l) a w := by
  have m1 : ∀ a' w', wpMix P ops C (fun a' w' => wpMix P ops C E ks l a' w') [false] [o'] a' w' → wpMix P ops C E (false :: ks) (o' :: l) a' w' := fun a' w' h => ⟨h.1, h.2.imp (fun h => ⟨h.1, Oper.wp_mono (fun _ _ h => h.2) h.2⟩) (fun h => ⟨h.1, h.2.2⟩)⟩
  exact ⟨h.1, h.2.imp (fun h => ⟨h.1, Oper.wp_mono m1 h.2⟩) (fun h => ⟨h.1, m1 _ _ h.2⟩)⟩
/-- both orders end in one: J tells what both have made, and the world -/
theorem two_join {E : Act → World → Prop} {ks : List Bool} {l : List Oper} {oi oj : Oper} {a : Act} {w : World} (J : Value → Value → World → Prop) (hc : ∀ vi vj, (a.put oj.dst vj).put oi.dst vi = (a.put oi.dst vi).put oj.dst vj)
    (h1 : MixW P ops C (fun a' w' => ∃ vi vj, a' = (a.put oi.dst vi).put oj.dst vj ∧ J vi vj w') [false, false] [oi, oj] a w)
    (h2 : MixW P ops C (fun a' w' => ∃ vi vj, a' = (a.put oj.dst vj).put oi.dst vi ∧ J vi vj w') [false, false] [oj, oi] a w)
    (hE : ∀ vi vj w', J vi vj w' → MixW P ops C E ks l ((a.put oi.dst vi).put oj.dst vj) w') : MixW P ops C E (false :: false :: ks) (oi :: oj :: l) a w ∧ MixW P ops C E (false :: false :: ks) (oj :: oi :: l) a w := by
  refine ⟨⟨wpMix_two (wpMix_mono ?_ _ _ _ _ h1.go)⟩, ⟨wpMix_two (wpMix_mono ?_ _ _ _ _ h2.go)⟩⟩
  · rintro a' w' ⟨vi, vj, rfl, hj⟩
    exact (hE _ _ _ hj).go
  · rintro a' w' ⟨vi, vj, rfl, hj⟩
    rw [hc]
    exact (hE _ _ _ hj).go
/-- alone, by its own law -/
theorem mx_wp {E : Act → World → Prop} {ks : List Bool} {o : Oper} {rest : List Oper} {a : Act} {w : World} (hc : C w) (hw : Region.wanted o (yielded ops a.tmps) = true) (h : o.wp P a w (fun a' w' => MixW P ops C E ks rest a' w') Qz) : MixW P ops C E (false :: ks) (o :: rest) a w :=
  ⟨hc, .inl ⟨hw, Oper.wp_mono (fun _ _ h => h.go) h⟩⟩
end
end Go.Proofs.Ytmdbfhfjaapeoaa

/- Drawn regions by a plan: operations that only tell, operations that are alone, and at forks either of two. No program. -/
namespace Go.Proofs.Ytmdbfhfjaapeoaa
open Go.RowKit

inductive Plan where
  | done
  | tell (k : Nat) (p : Plan)
  | one (k : Nat) (p : Plan)
  | two (i : Nat) (p : Plan) (j : Nat) (q : Plan)
namespace Plan
def count : Plan → Nat
  | done => 0
  | tell _ p => p.count + 1
  | one _ p => p.count + 1
  | two _ p _ _ => p.count + 1
def ok (md : Region.Mode) (ops : Array Oper) (g m : Nat) : Plan → Array Bool → Bool
  | done, listed => Region.seqB md ops g m listed
  | tell k p, listed => decide (k < m) && (Region.ready md ops listed).contains k && Region.free md ops listed k && ok md ops g m p (listed.setIfInBounds k true)
  | one k p, listed => decide (k < m) && decide (Region.ready md ops listed = [k]) && ok md ops g m p (listed.setIfInBounds k true)
  | two i p j q, listed => decide (i < m) && decide (j < m) && decide (p.count = q.count) && decide (Region.ready md ops listed = [i, j]) && ok md ops g m p (listed.setIfInBounds i true) && ok md ops g m q (listed.setIfInBounds j true)
end Plan
section
variable {P : Program} {ops : Array Oper} {md : Region.Mode} {C : World → Prop}
/-- an operation that is alone -/
def aloneP (P : Program) (ops : Array Oper) (o : Oper) (K : Act → World → Prop) (a : Act) (w : World) : Prop :=
  (Region.wanted o (yielded ops a.tmps) = true ∧ o.wp P a w K Qz) ∨ (Region.wanted o (yielded ops a.tmps) = false ∧ K (a.put o.dst undef) w)
def wpPlan (P : Program) (ops : Array Oper) (C : World → Prop) (E : Act → World → Prop) : Plan → Act → World → Prop
  | .done, a, w => C w ∧ E a w
  | .tell k p, a, w => ∃ o v, ops[k]? = some o ∧ StC P ops C o v a ∧ wpPlan P ops C E p (a.put o.dst v) w
  | .one k p, a, w => C w ∧ ∃ o, ops[k]? = some o ∧ aloneP P ops o (wpPlan P ops C E p) a w
  | .two i p j q, a, w => C w ∧ (∃ o, ops[i]? = some o ∧ aloneP P ops o (wpPlan P ops C E p) a w) ∧ (∃ o, ops[j]? = some o ∧ aloneP P ops o (wpPlan P ops C E q) a w)
/-- nobody looks into it -/
structure PlanW (P : Program) (ops : Array Oper) (C : World → Prop) (E : Act → World → Prop) (p : Plan) (a : Act) (w : World) : Prop where
  go : wpPlan P ops C E p a w
theorem aloneP.wpOp {i : Nat} {o : Oper} {K K' : Act → World → Prop} {a : Act} {w : World} (hi : ops[i]? = some o) (hK : ∀ a' w', K a' w' → K' a' w') (h : aloneP P ops o K a w) : wpOp P ops Qz i K' a w := by
  unfold Go.wpOp
  simp only [hi]
  rcases h with ⟨hw, h⟩ | ⟨hw, h⟩
  · simp only [hw, if_true]
    exact .inl (Oper.wp_mono hK h)
  · simp only [hw, Bool.false_eq_true, if_false]
    exact hK _ _ h
theorem plan_any {m g : Nat} {Lq : Act → World → Prop} (hsel : ∀ (j : Nat) (o : Oper) cs b, ops[j]? = some o → o.op ≠ .select cs b) (hT : TailWaitsB md ops m) :
    ∀ (p : Plan) (listed : Array Bool) (a : Act) (w : World), HeadInv md ops m listed → p.ok md ops g m listed = true → wpPlan P ops C Lq p a w →
    wpAnyT P md ops C m (fun listed' a' w' => Region.seqB md ops g m listed' = true ∧ Lq a' w') p.count listed a w
  | .done, listed, a, w, _, hB, h => ⟨h.1, seqB_ready hB, hB, h.2⟩
  | .tell k p, listed, a, w, inv, hB, h => by
    simp only [Plan.ok, Bool.and_eq_true, decide_eq_true_eq] at hB
    obtain ⟨⟨⟨hkm, hr⟩, hf⟩, hB'⟩ := hB
    have hr' : k ∈ Region.ready md ops listed := by simpa using hr
    obtain ⟨o, v, h0, hy, h'⟩ := h
    exact wpAnyT_first h0 hkm hsel hT _ listed a w inv (Region.free_spec h0 hf) hr' hy (plan_any hsel hT p _ _ w (inv.set hr' hkm) hB' h')
  | .one k p, listed, a, w, inv, hB, h => by
    simp only [Plan.ok, Bool.and_eq_true, decide_eq_true_eq] at hB
    obtain ⟨⟨hkm, hr⟩, hB'⟩ := hB
    obtain ⟨hc, o, h0, h'⟩ := h
    refine ⟨hc, fun h1 => (by rw [hr] at h1; cases h1), fun i hi => ?_⟩
    have hi' := hi
    rw [hr] at hi
    obtain rfl : i = k := by simpa using hi
    exact ⟨hkm, h'.wpOp h0 fun a' w' h2 => plan_any hsel hT p _ a' w' (inv.set hi' hkm) hB' h2⟩
  | .two i p j q, listed, a, w, inv, hB, h => by
    simp only [Plan.ok, Bool.and_eq_true, decide_eq_true_eq] at hB
    obtain ⟨⟨⟨⟨⟨him, hjm⟩, hpq⟩, hr⟩, hp⟩, hq⟩ := hB
    obtain ⟨hc, ⟨oi, h0, h1⟩, ⟨oj, h2, h3⟩⟩ := h
    refine ⟨hc, fun h1 => (by rw [hr] at h1; cases h1), fun x hx => ?_⟩
    have hx' := hx
    rw [hr] at hx
    rcases List.mem_cons.1 hx with rfl | hx
    · exact ⟨him, h1.wpOp h0 fun a' w' h => plan_any hsel hT p _ a' w' (inv.set hx' him) hp h⟩
    · obtain rfl := List.mem_singleton.1 hx
      exact ⟨hjm, h3.wpOp h2 fun a' w' h => by
        have := plan_any hsel hT q _ a' w' (inv.set hx' hjm) hq h
        rw [hpq]
        exact this⟩
/-- the first operations by a plan, the rest one behind the other -/
theorem wp_region_plan {id : Nat} {Q : Exit → Act → World → Prop} {a : Act} {w : World} {l : List Oper} (p : Plan) (C : World → Prop) (E : Act → World → Prop) (hm : P.follows .mixedOrders = true)
    (hB : (tailOkB l.toArray p.count && p.ok .any l.toArray (l.toArray.size - p.count) p.count (Array.replicate l.toArray.size false)) = true)
    (h : PlanW P l.toArray C E p a w.drew) (hE : ∀ a' w', E a' w' → wpList P l.toArray Q (l.drop p.count) a' w') : (Code.region id l.toArray true).wp P Q a w := by
  rw [Bool.and_eq_true] at hB
  obtain ⟨hok, hlex⟩ := hB
  obtain ⟨hsel, hnl, hT⟩ := tailOkB_spec hok
  have hdl : (l.drop p.count).length = l.toArray.size - p.count := by simp
  have H := plan_any (P := P) (md := .any) (m := p.count) (g := l.toArray.size - p.count) (Region.noSelect_spec hsel) hT p _ a w.drew (inv_new p.count) hlex h.go
  refine wp_region_any hm ?_
  have := wpAny_of_T (Q := Q) (g := l.toArray.size - p.count) (fun listed a' w' hL => by
    have := wpAny_of_seq (md := .any) (Q' := Q) (l.drop p.count) p.count listed a' w' (fun j => by simp [List.getElem?_drop]) (by rw [hdl]; exact hL.1) (hE _ _ hL.2)
    rwa [hdl] at this) _ _ _ _ H
  rw [show p.count + (l.toArray.size - p.count) = l.toArray.size by simp at hnl ⊢; omega] at this
  exact this
variable {E : Act → World → Prop} {p q : Plan} {o : Oper} {a : Act} {w : World}
theorem pl_val {k : Nat} (h0 : ops[k]? = some o) (hw : Region.wanted o (yielded ops a.tmps) = true) (h : ∃ v, (∀ w, C w → (execOp a.eval o).run P w = .ok (.value v) w) ∧ ∃ a', a.put o.dst v = a' ∧ PlanW P ops C E p a' w) : PlanW P ops C E (.tell k p) a w := by
  obtain ⟨v, hv, a', ha, h⟩ := h
  exact ⟨o, v, h0, .inl ⟨hw, hv⟩, by rw [ha]; exact h.go⟩
theorem pl_move {k : Nat} (x : Operand) (h0 : ops[k]? = some o) (hw : Region.wanted o (yielded ops a.tmps) = true) (hop : o.op = .move x) (h : ∃ v, a.eval x = v ∧ ∃ a', a.put o.dst v = a' ∧ PlanW P ops C E p a' w) : PlanW P ops C E (.tell k p) a w := by
  obtain ⟨v, hv, h⟩ := h
  exact pl_val h0 hw ⟨v, fun w _ => by rw [BigFrame.run_move x hop, hv], h⟩
/-- one that is alone: what it does -/
structure AloneW (P : Program) (ops : Array Oper) (o : Oper) (K : Act → World → Prop) (a : Act) (w : World) : Prop where
  go : aloneP P ops o K a w
theorem pl_one {k : Nat} (h0 : ops[k]? = some o) (hc : C w) (h : AloneW P ops o (fun a' w' => PlanW P ops C E p a' w') a w) : PlanW P ops C E (.one k p) a w :=
  ⟨hc, o, h0, h.go.imp (fun h => ⟨h.1, Oper.wp_mono (fun _ _ h => h.go) h.2⟩) (fun h => ⟨h.1, h.2.go⟩)⟩
theorem pl_two {i j : Nat} {oj : Oper} (h0 : ops[i]? = some o) (h1 : ops[j]? = some oj) (hc : C w) (h : AloneW P ops o (fun a' w' => PlanW P ops C E p a' w') a w) (h' : AloneW P ops oj (fun a' w' => PlanW P ops C E q a' w') a w) : PlanW P ops C E (.two i p j q) a w :=
  ⟨hc, ⟨o, h0, h.go.imp (fun h => ⟨h.1, Oper.wp_mono (fun _ _ h => h.go) h.2⟩) (fun h => ⟨h.1, h.2.go⟩)⟩, ⟨oj, h1, h'.go.imp (fun h => ⟨h.1, Oper.wp_mono (fun _ _ h => h.go) h.2⟩) (fun h => ⟨h.1, h.2.go⟩)⟩⟩
theorem al_val {K : Act → World → Prop} (hw : Region.wanted o (yielded ops a.tmps) = true) (h : ∃ v w', (execOp a.eval o).run P w = .ok (.value v) w' ∧ ∃ a', a.put o.dst v = a' ∧ K a' w') : AloneW P ops o K a w := by
  obtain ⟨v, w', hv, a', ha, h⟩ := h
  refine ⟨.inl ⟨hw, ?_⟩⟩
  unfold Oper.wp
  rw [hv]
  show K (a.put o.dst v) w'
  rw [ha]
  exact h
theorem al_wp {K : Act → World → Prop} (hw : Region.wanted o (yielded ops a.tmps) = true) (h : o.wp P a w K Qz) : AloneW P ops o K a w := ⟨.inl ⟨hw, h⟩⟩
/-- alone: a store -/
theorem al_skip {K : Act → World → Prop} (hw : Region.wanted o (yielded ops a.tmps) = true) (h : ∃ w', (execOp a.eval o).run P w = .ok .skip w' ∧ ∃ a', a.put o.dst undef = a' ∧ K a' w') : AloneW P ops o K a w := by
  obtain ⟨w', hv, a', ha, h⟩ := h
  refine ⟨.inl ⟨hw, ?_⟩⟩
  unfold Oper.wp
  rw [hv]
  show K (a.put o.dst undef) w'
  rw [ha]
  exact h
/-- alone: a call -/
theorem al_call {K : Act → World → Prop} {f : FuncId} {args : Array Value} {R : Ending → World → Prop} (hw : Region.wanted o (yielded ops a.tmps) = true) (hv : (execOp a.eval o).run P w = .ok (.enter f args) w) (hcall : Calls P f args w R)
    (h : ∀ e w', R e w' → ∃ v, e = .returned v ∧ ∃ a', a.put o.dst v = a' ∧ K a' w') : AloneW P ops o K a w := by
  refine ⟨.inl ⟨hw, ?_⟩⟩
  unfold Oper.wp
  rw [hv]
  refine hcall.mono fun e w' he => ?_
  obtain ⟨v, rfl, a', ha, h⟩ := h e w' he
  show K (a.put o.dst v) w'
  rw [ha]
  exact h
/-- a plan without forks: what is behind it is walked on -/
theorem wp_region_line {id : Nat} {Q : Exit → Act → World → Prop} {a : Act} {w : World} {l : List Oper} (p : Plan) (C : World → Prop) (hm : P.follows .mixedOrders = true)
    (hB : (tailOkB l.toArray p.count && p.ok .any l.toArray (l.toArray.size - p.count) p.count (Array.replicate l.toArray.size false)) = true)
    (h : PlanW P l.toArray C (fun a' w' => wpList P l.toArray Q (l.drop p.count) a' w') p a w.drew) : (Code.region id l.toArray true).wp P Q a w := wp_region_plan p C _ hm hB h (fun _ _ h => h)
theorem pl_end (hc : C w) (h : E a w) : PlanW P ops C E .done a w := ⟨hc, h⟩
end
end Go.Proofs.Ytmdbfhfjaapeoaa
