/- leaf.Write. -/
import Derived.Test.YtofllgmieciakabLeaf
namespace Go.Proofs.Ytofllgmieciakab
open Go.RowKit

/-- a leaf -/
structure LV where
  k : Int
  x : BV
def LV.cells (o : LV) : List Value := [.int .i64 o.k, .slice o.x.A o.x.l.length o.x.c]
abbrev LV.v (o : LV) : Value := .agg #[.int .i64 o.k, .slice o.x.A o.x.l.length o.x.c]
/-- a leaf's bytes -/
def leafB (k : Int) (l : List UInt8) : List UInt8 := if checkN k l.length ≠ 0 then numB 0 else if k = 1 then numB 1 ++ textB l else numB k.toNat
theorem leafB_bad {k : Int} {l : List UInt8} (h : checkN k l.length ≠ 0) : leafB k l = numB 0 := by unfold leafB; rw [if_pos h]
theorem leafB_file {k : Int} {l : List UInt8} (h : checkN k l.length = 0) (hk : k = 1) : leafB k l = numB 1 ++ textB l := by unfold leafB; rw [if_neg (by simpa using h), if_pos hk]
theorem leafB_other {k : Int} {l : List UInt8} (h : checkN k l.length = 0) (hk : k ≠ 1) : leafB k l = numB k.toNat := by unfold leafB; rw [if_neg (by simpa using h), if_neg hk]
theorem leafB_len (k : Int) (l : List UInt8) : (leafB k l).length ≤ 18 + l.length := by
  have h0 := numB_len 0
  have h1 := numB_len 1
  have h2 := numB_len k.toNat
  have h3 := numB_len l.length
  unfold leafB textB
  split
  · omega
  · split
    · simp only [List.length_append]; omega
    · omega
theorem checkN_ok {k : Int} {n : Nat} (h : checkN k n = 0) : (k = 0 ∨ k = 1 ∨ k = 2) ∧ (k ≠ 1 → n = 0) ∧ n ≤ 4096 := by
  unfold checkN at h
  split at h
  · rename_i h1
    split at h
    · exact ⟨.inr (.inl h1), fun h2 => absurd h1 h2, by assumption⟩
    · simp at h
  · split at h
    · rename_i h1 h2
      split at h
      · rename_i h3
        exact ⟨h2.elim .inl (fun h => .inr (.inr h)), fun _ => h3, by omega⟩
      · simp at h
    · simp at h
/-- bytes that leaves take at most -/
def wideL (ls : List LV) : Nat := (ls.map fun o => 18 + o.x.l.length).sum
theorem wideL_take (ls : List LV) (i : Nat) (hi : i < ls.length) : (ls.take i |>.flatMap fun o => leafB o.k o.x.l).length + (18 + ls[i].x.l.length) ≤ wideL ls := by
  have h1 : ∀ cs : List LV, (cs.flatMap fun o => leafB o.k o.x.l).length ≤ wideL cs := by
    intro cs
    induction cs with
    | nil => simp [wideL]
    | cons x cs ih =>
      have := leafB_len x.k x.x.l
      simp only [wideL, List.flatMap_cons, List.length_append, List.map_cons, List.sum_cons] at ih ⊢
      omega
  have h2 := h1 (ls.take i)
  have h3 : wideL (ls.take i) + (18 + ls[i].x.l.length) ≤ wideL ls := by
    have e : ls = ls.take i ++ ls[i] :: ls.drop (i + 1) := by simp
    have e2 : wideL ls = wideL (ls.take i ++ ls[i] :: ls.drop (i + 1)) := congrArg wideL e
    rw [e2]
    simp only [wideL, List.map_append, List.map_cons, List.sum_append, List.sum_cons]
    omega
  omega
theorem wideL_len : ∀ ls : List LV, ls.length ≤ wideL ls
  | [] => by simp
  | x :: ls => by
    have := wideL_len ls
    simp only [wideL, List.map_cons, List.sum_cons, List.length_cons] at this ⊢
    omega
/-- the cells of one leaf -/
theorem leaf_at {w : World} {Z : Nat → Prop} {A : Option Addr} {ls : List LV} {i : Nat} (h : Rd w Z 2 A ls.length (ls.flatMap LV.cells)) (hi : i < ls.length) :
    ∃ b off, A = some ⟨b, off, none⟩ ∧ Z b ∧ b < w.heap.size ∧ w.cell? ⟨b, off + i * 2, none⟩ = some (.int .i64 ls[i].k) ∧ w.cell? ⟨b, off + i * 2 + 1, none⟩ = some (.slice ls[i].x.A ls[i].x.l.length ls[i].x.c) := by
  obtain ⟨b, off, hA, hz, hb, hc⟩ := h.2 (by omega)
  have hg : ∀ j, j < 2 → (ls.flatMap LV.cells)[i * 2 + j]? = (LV.cells ls[i])[j]? := fun j hj => flat_get (k := 2) (fun _ => rfl) ls i j hi hj
  refine ⟨b, off, hA, hz, hb, ?_, ?_⟩
  · exact hc _ _ (hg 0 (by omega))
  · rw [Nat.add_assoc]; exact hc _ _ (hg 1 (by omega))

set_option maxHeartbeats 1000000 in
theorem leafWrite_any (base pb : Nat) (v : Value) (l : List UInt8) (A : Option Addr) (c : Nat) (ls : List LV) (Z : Nat → Prop) (w : World) (hp : Pen w base pb v l) (hr : Rd w Z 2 A ls.length (ls.flatMap LV.cells)) (hok : ∀ x ∈ ls, x.x.ok w Z)
    (hZ : ∀ b, b < w.heap.size → Z b → ¬ (b = pb ∨ v.ownBlock = some b)) (hbase : base ≤ w.heap.size) (hlen : l.length + wideL ls ≤ 140737488355328) :
    Calls Try.prog 25 #[.pointer (some ⟨pb, 0, none⟩), .slice A ls.length c] w fun e w' => e = .returned (.tuple #[]) ∧ ∃ v', PenTo w base pb v (l ++ ls.flatMap fun o => leafB o.k o.x.l) w' v' := by
  have hbl := wideL_len ls
  go_enter Try.func25, Try.ntmps25
  go_wp2_with fail
  go_loopw [8] (fun iv wr => ∃ (i : Nat) (Li : List UInt8) (v' : Value), i ≤ ls.length ∧ iv = .int .i64 (i : Int) ∧ PenTo w base pb v Li wr v' ∧ Hid (Li = l ++ (ls.take i).flatMap fun o => leafB o.k o.x.l)) (fun iv _ => ls.length - (intOf iv).toNat)
  case atStart => exact ⟨0, l, v, Nat.zero_le _, rfl, PenTo.refl hp, by show l = _; simp⟩
  case round =>
    obtain ⟨i, Li, v', hi, rfl, hpi, hLi⟩ := hrel
    have hsz := hpi.fr.size
    by_cases hlt : i < ls.length
    · obtain ⟨b, off, rfl, _, _, hc0, hc1⟩ := leaf_at (hr.fr hpi.fr hZ) hlt
      have hxok := hok _ (List.getElem_mem hlt)
      have hw := wideL_take ls i hlt
      have hll : Li.length + (18 + ls[i].x.l.length) ≤ 140737488355328 := by rw [hLi.out, List.length_append]; omega
      have hLn := flat_take (f := fun o : LV => leafB o.k o.x.l) hlt hLi.out
      have HLn := Lib.hid hLn
      clear hLn hw
      generalize ls[i] = x at hc0 hc1 HLn hxok hll
      obtain ⟨k, xA, xc, xl⟩ := x
      dsimp only at hc0 hc1 HLn hxok hll
      go_wp2_with fail
      refine (leafCheck_any k xA xl.length xc _ (by omega)).mono ?_
      rintro e w1 ⟨rfl, hb1⟩
      have hx1 : Blk w1 wr.heap.size 24 #[.int .i64 k, .slice xA xl.length xc] := (Blk.new wr 24 #[.int .i64 k, .slice xA xl.length xc]).below hb1
      have hlow1 : Below wr.heap.size wr w1 := ((Below.refl _ _).alloc (Nat.le_refl _) _).trans (hb1.mono (by simp))
      have hp1 : PenTo w base pb v Li w1 v' := hpi.mem hlow1
      have hn1 : wr.heap.size ≠ pb := by have := hpi.pen.blk.lt; omega
      have hn2 : v'.ownBlock ≠ some wr.heap.size := fun e => by have := (hpi.pen.own.lt _ e).2; omega
      have c0 := hx1.cell 0
      have c1 := hx1.cell 1
      have f0 := hx1.frozen 0
      have f1 := hx1.frozen 1
      clear hb1
      by_cases hck : checkN k xl.length = 0
      · obtain ⟨hk, hn0, _⟩ := checkN_ok hck
        have hs1 := hlow1.size
        have hs2 := hp1.fr.size
        generalize w1 = W at *
        by_cases hk1 : k = 1
        · rw [leafB_file hck hk1] at HLn
          rw [hck]
          subst hk1
          go_wp2_with fail
          refine (Num_any base pb v' Li _ _ [1] (fun b => W.heap.size ≤ b) _ (hp1.pen.alloc _) (Rd.lit rfl rfl (by simp)) ?_ ?_ ?_ ?_).mono ?_
          · rintro b' _ hb' (rfl | e)
            · have := hp1.pen.blk.lt; omega
            · have := (hp1.pen.own.lt _ e).2; omega
          · simp
          · simp; omega
          · simp; omega
          rintro e w3 ⟨rfl, v3, h3⟩
          have hp3 := hp1.trans (PenTo.after hp1.pen ((Below.refl _ _).alloc (Nat.le_refl _) _) h3)
          have hx3 := box_keep h3 (hx1.alloc _) hn1 hn2
          rw [List.flatMap_cons, List.flatMap_nil, List.append_nil] at hp3
          have e0 := hx3.cell 0
          have e1 := hx3.cell 1
          have hxs : BV.ok w3 (fun b => Z b ∧ b < w.heap.size) ⟨xA, xc, xl⟩ := (BV.ok.mono (Z' := fun b => Z b ∧ b < w.heap.size) hxok (fun b h1 h2 => ⟨h2, h1⟩)).fr hp3.fr (fun b _ h2 => hZ b h2.2 h2.1)
          have hn := numB_len 1
          have hs3 := hp3.fr.size
          have hat3 := hp3.at_
          go_wp2_with fail
          refine (Text_any base pb v3 (Li ++ numB 1) _ _ [⟨xA, xc, xl⟩] (fun b => (Z b ∧ b < w.heap.size) ∨ w3.heap.size ≤ b) _ (hp3.pen.alloc _) ((Rd.lit rfl rfl (by simp)).mono (fun b _ hb => .inr hb)) ?_ ?_ ?_ ?_).mono ?_
          · intro y hy
            obtain rfl := List.mem_singleton.1 hy
            exact BV.ok.mono (BV.ok.below (w := w3) hxs ((Below.refl _ _).alloc (Nat.le_refl _) _)) (fun b _ hb => .inl hb)
          · rintro b' _ hb' he
            rcases hb' with hb' | hb'
            · refine hZ b' hb'.2 hb'.1 ?_
              rcases he with he | he
              · exact .inl he
              · rcases hat3 with e | ⟨g, e, hg⟩
                · exact .inr (by rw [← e]; exact he)
                · rw [e] at he
                  injection he with he
                  omega
            · rcases he with he | he
              · have := hp3.pen.blk.lt; omega
              · have := (hp3.pen.own.lt _ he).2; omega
          · simp; omega
          · rw [List.length_append]; simp [wide]; omega
          rintro e w4 ⟨rfl, v4, h4⟩
          have hp4 := hp3.trans (PenTo.after hp3.pen ((Below.refl _ _).alloc (Nat.le_refl _) _) h4)
          rw [List.flatMap_cons, List.flatMap_nil, List.append_nil, List.append_assoc] at hp4
          go_wp2_with fail
          go_roundw
          case rel => exact ⟨i + 1, _, v4, hlt, by go_num, hp4, HLn⟩
          case measure => simp [intOf]; omega
        · rw [leafB_other hck hk1] at HLn
          have hk1b : (k == 1) = false := by simpa using hk1
          rw [hck]
          obtain ⟨n, rfl⟩ : ∃ n : Nat, k = n := ⟨k.toNat, by omega⟩
          rw [Int.toNat_natCast] at HLn
          have hnle : n ≤ 2 := by omega
          go_wp2_with fail
          refine (Num_any base pb v' Li _ _ [n] (fun b => W.heap.size ≤ b) _ (hp1.pen.alloc _) (Rd.lit rfl rfl (by simp)) ?_ ?_ ?_ ?_).mono ?_
          · rintro b' _ hb' (rfl | e)
            · have := hp1.pen.blk.lt; omega
            · have := (hp1.pen.own.lt _ e).2; omega
          · simp; omega
          · simp; omega
          · simp; omega
          rintro e w3 ⟨rfl, v3, h3⟩
          have hp3 := hp1.trans (PenTo.after hp1.pen ((Below.refl _ _).alloc (Nat.le_refl _) _) h3)
          have hx3 := box_keep h3 (hx1.alloc _) hn1 hn2
          rw [List.flatMap_cons, List.flatMap_nil, List.append_nil] at hp3
          have e0 := hx3.cell 0
          go_wp2_with fail
          go_roundw
          case rel => exact ⟨i + 1, _, v3, hlt, by go_num, hp3, HLn⟩
          case measure => simp [intOf]; omega
      · rw [leafB_bad hck] at HLn
        have hckb : (checkN k xl.length != 0) = true := by simpa using hck
        go_wp2_with fail
        obtain ⟨hx2, hf2⟩ := Blk.two (x' := .int .i64 0) (y' := .slice none 0 0) hx1
        have hp2 := hp1.side hf2 hsz hn1 hn2
        have hsz2 := hf2.size
        have hz2 : ((w1.setCell ⟨wr.heap.size, 0, none⟩ (.int .i64 0)).setCell ⟨wr.heap.size, 1, none⟩ (.slice none 0 0)).heap.size = w1.heap.size := by simp
        rw [← hz2]
        clear c0 c1 f0 f1 hx1 hf2
        generalize (w1.setCell ⟨wr.heap.size, 0, none⟩ (.int .i64 0)).setCell ⟨wr.heap.size, 1, none⟩ (.slice none 0 0) = W at *
        have hs1 := hlow1.size
        have hs2 := hp2.fr.size
        refine (Num_any base pb v' Li _ _ [0] (fun b => W.heap.size ≤ b) _ (hp2.pen.alloc _) (Rd.lit rfl rfl (by simp)) ?_ ?_ ?_ ?_).mono ?_
        · rintro b' _ hb' (rfl | e)
          · have := hp2.pen.blk.lt; omega
          · have := (hp2.pen.own.lt _ e).2; omega
        · simp
        · simp; omega
        · simp; omega
        rintro e w3 ⟨rfl, v3, h3⟩
        have hp3 := hp2.trans (PenTo.after hp2.pen ((Below.refl _ _).alloc (Nat.le_refl _) _) h3)
        have hx3 := box_keep h3 (hx2.alloc _) hn1 hn2
        rw [List.flatMap_cons, List.flatMap_nil, List.append_nil] at hp3
        have e0 := hx3.cell 0
        go_wp2_with fail
        go_roundw
        case rel => exact ⟨i + 1, _, v3, hlt, by go_num, hp3, HLn⟩
        case measure => simp [intOf]; omega
    · have e : i = ls.length := by omega
      go_wp2_with fail
      go_end0
      subst e
      refine ⟨rfl, v', ?_⟩
      have hL : Li = l ++ ls.flatMap fun o => leafB o.k o.x.l := by rw [hLi.out, List.take_length]
      rw [← hL]
      exact hpi
end Go.Proofs.Ytofllgmieciakab
