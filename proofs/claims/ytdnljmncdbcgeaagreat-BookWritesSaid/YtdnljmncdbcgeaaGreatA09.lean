/- grain.Pen.Text, and pens that are none. -/
import Derived.Test.YtdnljmncdbcgeaaGreatA08
import Derived.Lib.ConvBytes
import Derived.Deep.RegionHeld3
import Derived.Deep.RegionLaw
import Derived.Shelf.SlSortCmp.NoneTotal
import Derived.Ground.SlsfProg
import Derived.Shelf.SlMaps.Clone
import Derived.Ground.SlmcProg
import Derived.Shelf.SlIter.Nil
import Derived.Ground.GgzProg
import Derived.Test.YtdnljmncdbcgeaaGreatProg
import Derived.Shelf.Small.Bits
import Derived.Sort.OwnSorted

namespace Go.Proofs.YtdnljmncdbcgeaaGreat
open Go.RowKit

/-- bytes that texts take at most -/
def wide (bs : List BV) : Nat := (bs.map fun x => 9 + x.l.length).sum
theorem wide_take (bs : List BV) (i : Nat) (hi : i < bs.length) : (bs.take i |>.flatMap fun x => textB x.l).length + (9 + bs[i].l.length) ≤ wide bs := by
  have h1 : ∀ cs : List BV, (cs.flatMap fun x => textB x.l).length ≤ wide cs := by
    intro cs
    induction cs with
    | nil => simp [wide]
    | cons x cs ih =>
      have := numB_len x.l.length
      simp only [wide, List.flatMap_cons, List.length_append, List.map_cons, List.sum_cons, textB] at ih ⊢
      omega
  have h2 := h1 (bs.take i)
  have h3 : wide (bs.take i) + (9 + bs[i].l.length) ≤ wide bs := by
    have e : bs = bs.take i ++ bs[i] :: bs.drop (i + 1) := by simp
    have e2 : wide bs = wide (bs.take i ++ bs[i] :: bs.drop (i + 1)) := congrArg wide e
    rw [e2]
    simp only [wide, List.map_append, List.map_cons, List.sum_append, List.sum_cons]
    omega
  omega

theorem wide_len : ∀ bs : List BV, bs.length ≤ wide bs
  | [] => by simp
  | x :: bs => by
    have := wide_len bs
    simp only [wide, List.map_cons, List.sum_cons, List.length_cons] at this ⊢
    omega
theorem hid_text {L L1 n r : List UInt8} (h : L1 ++ n = r) (h' : L = L1 ++ n) : Hid (L = r) := by rw [h', h]; rfl

set_option maxHeartbeats 400000 in
theorem Text_any (base pb : Nat) (v : Value) (l : List UInt8) (A : Option Addr) (c : Nat) (bs : List BV) (Z : Nat → Prop) (w : World) (hp : Pen w base pb v l) (hr : Rd w Z 1 A bs.length (bs.map BV.v)) (hok : ∀ x ∈ bs, x.ok w Z)
    (hZ : ∀ b, b < w.heap.size → Z b → ¬ (b = pb ∨ v.ownBlock = some b)) (hbase : base ≤ w.heap.size) (hlen : l.length + wide bs ≤ 140737488355328) :
    Calls Tryz.prog 98 #[.pointer (some ⟨pb, 0, none⟩), .slice A bs.length c] w fun e w' => e = .returned (.tuple #[]) ∧ ∃ v', PenTo w base pb v (l ++ bs.flatMap fun x => textB x.l) w' v' := by
  have hbl := wide_len bs
  go_enter Tryz.func98, Tryz.ntmps98
  go_wp2_with fail
  go_loopw [10] (fun iv wr => ∃ (i : Nat) (Li : List UInt8) (v' : Value), i ≤ bs.length ∧ iv = .int .i64 (i : Int) ∧ PenTo w base pb v Li wr v' ∧ Hid (Li = l ++ (bs.take i).flatMap fun x => textB x.l)) (fun iv _ => bs.length - (intOf iv).toNat)
  case atStart => exact ⟨0, l, v, Nat.zero_le _, rfl, PenTo.refl hp, by show l = _; simp⟩
  case round =>
    obtain ⟨i, Li, v', hi, rfl, hpi, hLi⟩ := hrel
    have hsz := hpi.fr.size
    by_cases hlt : i < bs.length
    · obtain ⟨b, off, rfl, _, _, hc⟩ := (hr.fr hpi.fr hZ).atm hlt
      have hxok := (hok _ (List.getElem_mem hlt))
      have hw := wide_take bs i hlt
      have hll : Li.length = l.length + ((bs.take i).flatMap fun x => textB x.l).length := by rw [hLi.out, List.length_append]
      have hll2 : Li.length + (9 + bs[i].l.length) ≤ 140737488355328 := by omega
      have hLn := flat_take hlt hLi.out
      have HLn := Lib.hid hLn
      clear hLn hll hw
      generalize bs[i] = x at hc HLn hxok hll2
      obtain ⟨xA, xc, xl⟩ := x
      dsimp only at HLn hxok hll2
      replace hc : wr.cell? ⟨b, off + i, none⟩ = some (.slice xA xl.length xc) := hc
      go_wp2_with fail
      refine (num_any base pb v' Li xl.length _ hpi.pen (by omega) (by omega) (by omega)).mono ?_
      rintro e w1 ⟨rfl, v1, h1⟩
      have hL1 : (Li ++ numB xl.length).length ≤ Li.length + 9 := by have := numB_len xl.length; rw [List.length_append]; omega
      replace HLn : Hid ((Li ++ numB xl.length) ++ xl = l ++ (bs.take (i + 1)).flatMap fun x => textB x.l) := by
        show _ = _
        rw [List.append_assoc]
        exact HLn.out
      generalize Li ++ numB xl.length = L1 at h1 hL1 HLn
      have hp1 := hpi.trans h1
      obtain ⟨A1, c1, rfl, hlc1, hcm1, hA1⟩ := h1.pen.own.form
      have hc1 := h1.pen.cell
      have hx1 : By w1 Z xA xl := (hxok.fr hp1.fr hZ).by_
      go_wp2_with (at_builtin; refine wpList_append_by rfl (.tmp 23) (.tmp 24) rfl (v := .slice A1 L1.length c1) rfl h1.pen.own rfl hx1 (by omega) (by have := hp1.fr.size; omega) ?_; intro L2 A2 c2 w2 hL2 hown hg hat; have hst := PenTo.stored h1.pen (Below.refl _ _) hown hg hat; have hb2 := h1.pen.blk.grown hg h1.pen.ne; have hc2 : w2.cell? ⟨pb, 0, none⟩ = some (.slice A1 L1.length c1) := hb2.cell 0; have hf2 : w2.frozen? ⟨pb, 0, none⟩ = false := hb2.frozen 0)
      go_roundw
      case rel => exact ⟨i + 1, L2, _, hlt, by go_num, hp1.trans hst, hid_text HLn.out hL2.out⟩
      case measure => simp [intOf]; omega
    · have e : i = bs.length := by omega
      go_wp2_with fail
      go_end0
      subst e
      refine ⟨rfl, v', ?_⟩
      have hL : Li = l ++ bs.flatMap fun x => textB x.l := by rw [hLi.out, List.take_length]
      rw [← hL]
      exact hpi

set_option maxHeartbeats 400000 in
theorem Text_nil (A : Option Addr) (n c : Nat) (w : World) : Calls Tryz.prog 98 #[.pointer none, .slice A n c] w fun e w' => e = .returned (.tuple #[]) ∧ w = w' := by
  go_enter Tryz.func98, Tryz.ntmps98
  go_wp2_with fail
  refine bodyPost_ret (results_none rfl _ _ _) rfl ?_
  exact ⟨rfl, rfl⟩

end Go.Proofs.YtdnljmncdbcgeaaGreat

/- A new pen, what stays beside it; flat lists of cells. -/
namespace Go.Proofs.YtdnljmncdbcgeaaGreat
open Go.RowKit

theorem PenTo.low {a b : World} {base pb B : Nat} {v v' : Value} {l l' : List UInt8} (h : PenTo a base pb v l' b v') (ho : OwB a base v l) (hp : B ≤ pb) (hB : B ≤ base) (hs : B ≤ a.heap.size) : Below B a b :=
  h.fr.below hs (fun k hk => by
    rintro (rfl | e)
    · omega
    · have := (ho.lt _ e).1; omega)
theorem Pen.low {a b : World} {base pb B : Nat} {v v' : Value} {l l' : List UInt8} (h : Pen a base pb v l) (k : PenTo a base pb v l' b v') (hp : B ≤ pb) (hB : B ≤ base) (hs : B ≤ a.heap.size) : Below B a b := k.low h.own hp hB hs
/-- var p grain.Pen -/
theorem Pen.new (w : World) {base : Nat} : Pen (w.alloc (.cells #[.slice none 0 0] 128)) base w.heap.size (.slice none 0 0) [] := ⟨Blk.new _ _ _, OwB.nil _ _⟩

theorem box_keep {B pb : Nat} {a c : World} {vp vp' : Value} {Lp' : List UInt8} (k : PenTo a B pb vp Lp' c vp') {g : Nat} {t : TypeId} {cs : Array Value} (hb : Blk a g t cs) (h1 : g ≠ pb) (h2 : vp.ownBlock ≠ some g) : Blk c g t cs :=
  hb.fr k.fr (by rintro (e | e); exact h1 e; exact h2 e)

/-- new memory behind a pen's method -/
theorem PenTo.mem {a b c : World} {base pb : Nat} {v v' : Value} {l' : List UInt8} (h : PenTo a base pb v l' b v') (k : Below b.heap.size b c) : PenTo a base pb v l' c v' :=
  ⟨h.pen.below k, h.fr.then_below k, h.at_⟩
/-- a store into a new block beside a pen -/
theorem PenTo.side {a b c : World} {base pb bx : Nat} {v v' : Value} {l' : List UInt8} (h : PenTo a base pb v l' b v') (k : Fr (fun x => x = bx) b c) (hb : a.heap.size ≤ bx) (h1 : bx ≠ pb) (h2 : v'.ownBlock ≠ some bx) : PenTo a base pb v l' c v' :=
  ⟨⟨h.pen.blk.fr k (fun e => h1 e.symm), h.pen.own.fr k (fun g hg e => h2 (by rw [hg, e]))⟩, h.fr.trans k (fun x hx e => by omega), h.at_⟩
end Go.Proofs.YtdnljmncdbcgeaaGreat

/- leaf.Write. -/
namespace Go.Proofs.YtdnljmncdbcgeaaGreat
open Go.RowKit

/-- the cells of one leaf -/
theorem leaf_at {w : World} {Z : Nat → Prop} {A : Option Addr} {ls : List LV} {i : Nat} (h : Rd w Z 2 A ls.length (ls.flatMap LV.cells)) (hi : i < ls.length) :
    ∃ b off, A = some ⟨b, off, none⟩ ∧ Z b ∧ b < w.heap.size ∧ w.cell? ⟨b, off + i * 2, none⟩ = some (.int .i64 ls[i].k) ∧ w.cell? ⟨b, off + i * 2 + 1, none⟩ = some (.slice ls[i].x.A ls[i].x.l.length ls[i].x.c) := by
  obtain ⟨b, off, hA, hz, hb, hc⟩ := h.2 (by omega)
  have hg : ∀ j, j < 2 → (ls.flatMap LV.cells)[i * 2 + j]? = (LV.cells ls[i])[j]? := fun j hj => flat_get (k := 2) (fun _ => rfl) ls i j hi hj
  refine ⟨b, off, hA, hz, hb, ?_, ?_⟩
  · exact hc _ _ (hg 0 (by omega))
  · rw [Nat.add_assoc]; exact hc _ _ (hg 1 (by omega))

set_option maxHeartbeats 1000000 in
theorem leafWrite_any (base pb : Nat) (v : Value) (l : List UInt8) (A : Option Addr) (c : Nat) (ls : List LV) (Z : Nat → Prop) (w : World) (hp : Pen w base pb v l) (hr : Rd w Z 2 A ls.length (ls.flatMap LV.cells)) (hok : ∀ x ∈ ls, x.x.ok w Z)
    (hZ : ∀ b, b < w.heap.size → Z b → ¬ (b = pb ∨ v.ownBlock = some b)) (hbase : base ≤ w.heap.size) (hlen : l.length + wideL ls ≤ 140737488355328) :
    Calls Tryz.prog 99 #[.pointer (some ⟨pb, 0, none⟩), .slice A ls.length c] w fun e w' => e = .returned (.tuple #[]) ∧ ∃ v', PenTo w base pb v (l ++ ls.flatMap fun o => leafB o.k o.x.l) w' v' := by
  have hbl := wideL_len ls
  go_enter Tryz.func99, Tryz.ntmps99
  go_wp2_with fail
  go_loopw [8] (fun iv wr => ∃ (i : Nat) (Li : List UInt8) (v' : Value), i ≤ ls.length ∧ iv = .int .i64 (i : Int) ∧ PenTo w base pb v Li wr v' ∧ Hid (Li = l ++ (ls.take i).flatMap fun o => leafB o.k o.x.l)) (fun iv _ => ls.length - (intOf iv).toNat)
  case atStart => exact ⟨0, l, v, Nat.zero_le _, rfl, PenTo.refl hp, by show l = _; simp⟩
  case round =>
    obtain ⟨i, Li, v', hi, rfl, hpi, hLi⟩ := hrel
    have hsz := hpi.fr.size
    by_cases hlt : i < ls.length
    · obtain ⟨b, off, rfl, _, _, hc0, hc1⟩ := leaf_at (hr.fr hpi.fr hZ) hlt
      have hxok := hok _ (List.getElem_mem hlt)
      have hw := wideL_take ls i hlt
      have hll : Li.length + (18 + ls[i].x.l.length) ≤ 140737488355328 := by rw [hLi.out, List.length_append]; omega
      have hLn := flat_take (f := fun o : LV => leafB o.k o.x.l) hlt hLi.out
      have HLn := Lib.hid hLn
      clear hLn hw
      generalize ls[i] = x at hc0 hc1 HLn hxok hll
      obtain ⟨k, xA, xc, xl⟩ := x
      dsimp only at hc0 hc1 HLn hxok hll
      go_wp2_with fail
      refine (leafCheck_any k xA xl.length xc _ (by omega)).mono ?_
      rintro e w1 ⟨rfl, hb1⟩
      have hx1 : Blk w1 wr.heap.size 25 #[.int .i64 k, .slice xA xl.length xc] := (Blk.new wr 25 #[.int .i64 k, .slice xA xl.length xc]).below hb1
      have hlow1 : Below wr.heap.size wr w1 := ((Below.refl _ _).alloc (Nat.le_refl _) _).trans (hb1.mono (by simp))
      have hp1 : PenTo w base pb v Li w1 v' := hpi.mem hlow1
      have hn1 : wr.heap.size ≠ pb := by have := hpi.pen.blk.lt; omega
      have hn2 : v'.ownBlock ≠ some wr.heap.size := fun e => by have := (hpi.pen.own.lt _ e).2; omega
      have c0 := hx1.cell 0
      have c1 := hx1.cell 1
      have f0 := hx1.frozen 0
      have f1 := hx1.frozen 1
      clear hb1
      by_cases hck : checkN k xl.length = 0
      · obtain ⟨hk, hn0, _⟩ := checkN_ok hck
        have hs1 := hlow1.size
        have hs2 := hp1.fr.size
        generalize w1 = W at *
        by_cases hk1 : k = 1
        · rw [leafB_file hck hk1] at HLn
          rw [hck]
          subst hk1
          go_wp2_with fail
          refine (Num_any base pb v' Li _ _ [1] (fun b => W.heap.size ≤ b) _ (hp1.pen.alloc _) (Rd.lit rfl rfl (by simp)) ?_ ?_ ?_ ?_).mono ?_
          · rintro b' _ hb' (rfl | e)
            · have := hp1.pen.blk.lt; omega
            · have := (hp1.pen.own.lt _ e).2; omega
          · simp
          · simp; omega
          · simp; omega
          rintro e w3 ⟨rfl, v3, h3⟩
          have hp3 := hp1.trans (PenTo.after hp1.pen ((Below.refl _ _).alloc (Nat.le_refl _) _) h3)
          have hx3 := box_keep h3 (hx1.alloc _) hn1 hn2
          rw [List.flatMap_cons, List.flatMap_nil, List.append_nil] at hp3
          have e0 := hx3.cell 0
          have e1 := hx3.cell 1
          have hxs : BV.ok w3 (fun b => Z b ∧ b < w.heap.size) ⟨xA, xc, xl⟩ := (BV.ok.mono (Z' := fun b => Z b ∧ b < w.heap.size) hxok (fun b h1 h2 => ⟨h2, h1⟩)).fr hp3.fr (fun b _ h2 => hZ b h2.2 h2.1)
          have hn := numB_len 1
          have hs3 := hp3.fr.size
          have hat3 := hp3.at_
          go_wp2_with fail
          refine (Text_any base pb v3 (Li ++ numB 1) _ _ [⟨xA, xc, xl⟩] (fun b => (Z b ∧ b < w.heap.size) ∨ w3.heap.size ≤ b) _ (hp3.pen.alloc _) ((Rd.lit rfl rfl (by simp)).mono (fun b _ hb => .inr hb)) ?_ ?_ ?_ ?_).mono ?_
          · intro y hy
            obtain rfl := List.mem_singleton.1 hy
            exact BV.ok.mono (BV.ok.below (w := w3) hxs ((Below.refl _ _).alloc (Nat.le_refl _) _)) (fun b _ hb => .inl hb)
          · rintro b' _ hb' he
            rcases hb' with hb' | hb'
            · refine hZ b' hb'.2 hb'.1 ?_
              rcases he with he | he
              · exact .inl he
              · rcases hat3 with e | ⟨g, e, hg⟩
                · exact .inr (by rw [← e]; exact he)
                · rw [e] at he
                  injection he with he
                  omega
            · rcases he with he | he
              · have := hp3.pen.blk.lt; omega
              · have := (hp3.pen.own.lt _ he).2; omega
          · simp; omega
          · rw [List.length_append]; simp [wide]; omega
          rintro e w4 ⟨rfl, v4, h4⟩
          have hp4 := hp3.trans (PenTo.after hp3.pen ((Below.refl _ _).alloc (Nat.le_refl _) _) h4)
          rw [List.flatMap_cons, List.flatMap_nil, List.append_nil, List.append_assoc] at hp4
          go_wp2_with fail
          go_roundw
          case rel => exact ⟨i + 1, _, v4, hlt, by go_num, hp4, HLn⟩
          case measure => simp [intOf]; omega
        · rw [leafB_other hck hk1] at HLn
          have hk1b : (k == 1) = false := by simpa using hk1
          rw [hck]
          obtain ⟨n, rfl⟩ : ∃ n : Nat, k = n := ⟨k.toNat, by omega⟩
          rw [Int.toNat_natCast] at HLn
          have hnle : n ≤ 2 := by omega
          go_wp2_with fail
          refine (Num_any base pb v' Li _ _ [n] (fun b => W.heap.size ≤ b) _ (hp1.pen.alloc _) (Rd.lit rfl rfl (by simp)) ?_ ?_ ?_ ?_).mono ?_
          · rintro b' _ hb' (rfl | e)
            · have := hp1.pen.blk.lt; omega
            · have := (hp1.pen.own.lt _ e).2; omega
          · simp; omega
          · simp; omega
          · simp; omega
          rintro e w3 ⟨rfl, v3, h3⟩
          have hp3 := hp1.trans (PenTo.after hp1.pen ((Below.refl _ _).alloc (Nat.le_refl _) _) h3)
          have hx3 := box_keep h3 (hx1.alloc _) hn1 hn2
          rw [List.flatMap_cons, List.flatMap_nil, List.append_nil] at hp3
          have e0 := hx3.cell 0
          go_wp2_with fail
          go_roundw
          case rel => exact ⟨i + 1, _, v3, hlt, by go_num, hp3, HLn⟩
          case measure => simp [intOf]; omega
      · rw [leafB_bad hck] at HLn
        have hckb : (checkN k xl.length != 0) = true := by simpa using hck
        go_wp2_with fail
        obtain ⟨hx2, hf2⟩ := Blk.two (x' := .int .i64 0) (y' := .slice none 0 0) hx1
        have hp2 := hp1.side hf2 hsz hn1 hn2
        have hsz2 := hf2.size
        have hz2 : ((w1.setCell ⟨wr.heap.size, 0, none⟩ (.int .i64 0)).setCell ⟨wr.heap.size, 1, none⟩ (.slice none 0 0)).heap.size = w1.heap.size := by simp
        rw [← hz2]
        clear c0 c1 f0 f1 hx1 hf2
        generalize (w1.setCell ⟨wr.heap.size, 0, none⟩ (.int .i64 0)).setCell ⟨wr.heap.size, 1, none⟩ (.slice none 0 0) = W at *
        have hs1 := hlow1.size
        have hs2 := hp2.fr.size
        refine (Num_any base pb v' Li _ _ [0] (fun b => W.heap.size ≤ b) _ (hp2.pen.alloc _) (Rd.lit rfl rfl (by simp)) ?_ ?_ ?_ ?_).mono ?_
        · rintro b' _ hb' (rfl | e)
          · have := hp2.pen.blk.lt; omega
          · have := (hp2.pen.own.lt _ e).2; omega
        · simp
        · simp; omega
        · simp; omega
        rintro e w3 ⟨rfl, v3, h3⟩
        have hp3 := hp2.trans (PenTo.after hp2.pen ((Below.refl _ _).alloc (Nat.le_refl _) _) h3)
        have hx3 := box_keep h3 (hx2.alloc _) hn1 hn2
        rw [List.flatMap_cons, List.flatMap_nil, List.append_nil] at hp3
        have e0 := hx3.cell 0
        go_wp2_with fail
        go_roundw
        case rel => exact ⟨i + 1, _, v3, hlt, by go_num, hp3, HLn⟩
        case measure => simp [intOf]; omega
    · have e : i = ls.length := by omega
      go_wp2_with fail
      go_end0
      subst e
      refine ⟨rfl, v', ?_⟩
      have hL : Li = l ++ ls.flatMap fun o => leafB o.k o.x.l := by rw [hLi.out, List.take_length]
      rw [← hL]
      exact hpi
end Go.Proofs.YtdnljmncdbcgeaaGreat

/- []byte(s). -/
namespace Go.Proofs.YtdnljmncdbcgeaaGreat
open Go.RowKit

theorem conv_str (w : World) (l : List UInt8) (hl : l.length ≤ maxLen) : ∃ c W, (convert 9 23 (.string ⟨⟨l⟩⟩)).run Tryz.prog w = .ok (.slice (some ⟨w.heap.size, 0, none⟩) l.length c) W ∧ By W (fun b => b = w.heap.size) (some ⟨w.heap.size, 0, none⟩) l ∧ l.length ≤ c ∧ c ≤ maxLen ∧ Below w.heap.size w W ∧ W.heap.size = w.heap.size + 1 := by
  refine ⟨_, _, Lib.run_convert_string_bytes w _ _ 5 ⟨⟨l⟩⟩ Tryz.underlying9 Tryz.underlying23 Tryz.underlying5, ?_, grownCap_ge _ _ _ _, grownCap_le_maxLen _ _ _ _ hl, ?_, Lib.bytesWorld_size _ _ _⟩
  · refine ⟨by simp, fun h => ⟨w.heap.size, 0, rfl, rfl, by rw [Lib.bytesWorld_size]; omega, fun j u hj => ?_⟩⟩
    have hjl : j < l.length := by
      by_cases h2 : j < l.length
      · exact h2
      · rw [List.getElem?_eq_none (by simpa using h2)] at hj; cases hj
    rw [Nat.zero_add, Lib.bytesWorld_cell w 5 ⟨⟨l⟩⟩ j hjl]
    simp [hjl, List.getD] at hj ⊢
    exact hj
  · exact ⟨rfl, rfl, rfl, by rw [Lib.bytesWorld_size]; omega, fun k hk => Lib.bytesWorld_at_old _ _ _ _ hk⟩
end Go.Proofs.YtdnljmncdbcgeaaGreat

/- entry.Write. -/
namespace Go.Proofs.YtdnljmncdbcgeaaGreat
open Go.RowKit

/-- an entry's bytes -/
def entB (p l : List UInt8) (v k : Int) : List UInt8 := if checkE p v k l.length ≠ 0 then [] else textB p ++ (numB v.toNat ++ leafB k l)
abbrev EV.b (o : EV) : List UInt8 := entB (tl o.p) o.x.l o.v o.k
theorem entB_bad {p l : List UInt8} {v k : Int} (h : checkE p v k l.length ≠ 0) : entB p l v k = [] := by unfold entB; rw [if_pos h]
theorem entB_good {p l : List UInt8} {v k : Int} (h : checkE p v k l.length = 0) : entB p l v k = textB p ++ (numB v.toNat ++ leafB k l) := by unfold entB; rw [if_neg (by simpa using h)]
theorem entB_len (p l : List UInt8) (v k : Int) : (entB p l v k).length ≤ 36 + (p.length + l.length) := by
  have h1 := numB_len p.length
  have h2 := numB_len v.toNat
  have h3 := leafB_len k l
  unfold entB textB
  split
  · simp
  · simp only [List.length_append]; omega
theorem EV.b_len (o : EV) : o.b.length ≤ 36 + lenE o := entB_len _ _ _ _
/-- bytes that entries take at most -/
def wideE (ls : List EV) : Nat := (ls.map fun o => 36 + lenE o).sum
theorem wideE_light (l : List EV) : wideE l = 36 * l.length + lensE l := by
  induction l with
  | nil => simp [wideE, lensE]
  | cons x l ih =>
    simp only [wideE, lensE, List.map_cons, List.sum_cons, List.length_cons] at ih ⊢
    omega
theorem wideE_all (l : List EV) : (l.flatMap EV.b).length ≤ wideE l := by
  induction l with
  | nil => simp [wideE]
  | cons x cs ih =>
    have := x.b_len
    simp only [wideE, List.flatMap_cons, List.length_append, List.map_cons, List.sum_cons] at ih ⊢
    omega
theorem wideE_take (ls : List EV) (i : Nat) (hi : i < ls.length) : ((ls.take i).flatMap EV.b).length + (36 + lenE ls[i]) ≤ wideE ls := by
  have h2 := wideE_all (ls.take i)
  have h3 : wideE (ls.take i) + (36 + lenE ls[i]) ≤ wideE ls := by
    have e : ls = ls.take i ++ ls[i] :: ls.drop (i + 1) := by simp
    have e2 : wideE ls = wideE (ls.take i ++ ls[i] :: ls.drop (i + 1)) := congrArg wideE e
    rw [e2]
    simp only [wideE, List.map_append, List.map_cons, List.sum_append, List.sum_cons]
    omega
  omega
theorem wideE_len : ∀ ls : List EV, ls.length ≤ wideE ls
  | [] => by simp
  | x :: ls => by
    have := wideE_len ls
    simp only [wideE, List.map_cons, List.sum_cons, List.length_cons] at this ⊢
    omega

set_option maxRecDepth 100000 in
set_option maxHeartbeats 1000000 in
theorem entryWrite_any (base pb : Nat) (v : Value) (l : List UInt8) (A : Option Addr) (c : Nat) (ls : List EV) (Z : Nat → Prop) (w : World) (hp : Pen w base pb v l) (hr : Rd w Z 4 A ls.length (ls.flatMap EV.cells)) (hok : ∀ x ∈ ls, x.ok w Z)
    (hZ : ∀ b, b < w.heap.size → Z b → ¬ (b = pb ∨ v.ownBlock = some b)) (hbase : base ≤ w.heap.size) (hlen : l.length + wideE ls ≤ 140737488355328) :
    Calls Tryz.prog 63 #[.pointer (some ⟨pb, 0, none⟩), .slice A ls.length c] w fun e w' => e = .returned (.tuple #[]) ∧ ∃ v', PenTo w base pb v (l ++ ls.flatMap EV.b) w' v' := by
  have hbl := wideE_len ls
  go_enter Tryz.func63, Tryz.ntmps63
  go_wp2_with fail
  go_loopw [8] (fun iv wr => ∃ (i : Nat) (Li : List UInt8) (v' : Value), i ≤ ls.length ∧ iv = .int .i64 (i : Int) ∧ PenTo w base pb v Li wr v' ∧ Hid (Li = l ++ (ls.take i).flatMap EV.b)) (fun iv _ => ls.length - (intOf iv).toNat)
  case atStart => exact ⟨0, l, v, Nat.zero_le _, rfl, PenTo.refl hp, by show l = _; simp⟩
  case round =>
    obtain ⟨i, Li, v', hi, rfl, hpi, hLi⟩ := hrel
    have hsz := hpi.fr.size
    by_cases hlt : i < ls.length
    · obtain ⟨b, off, rfl, _, _, hc0, hc1, hc2, hc3⟩ := ent_at (hr.fr hpi.fr hZ) hlt
      have hxok := hok _ (List.getElem_mem hlt)
      have hw := wideE_take ls i hlt
      have hll : Li.length + (36 + lenE ls[i]) ≤ 140737488355328 := by rw [hLi.out, List.length_append]; omega
      have hLn := flat_take (f := EV.b) hlt hLi.out
      have HLn := Lib.hid hLn
      clear hLn hw
      generalize ls[i] = o at hc0 hc1 hc2 hc3 HLn hxok hll
      obtain ⟨⟨⟨pl⟩⟩, u, k, xA, xc, xl⟩ := o
      obtain ⟨hbx, hxl, hpl0, hu, hk⟩ := hxok
      replace hll : Li.length + (36 + (pl.length + xl.length)) ≤ 140737488355328 := hll
      replace hpl0 : pl.length ≤ 140737488355328 := hpl0
      replace HLn : Hid (Li ++ entB pl xl u k = l ++ (ls.take (i + 1)).flatMap EV.b) := HLn
      dsimp only at *
      obtain ⟨n, rfl⟩ : ∃ n : Nat, u = n := ⟨u.toNat, by omega⟩
      have HCK := Lib.hid (fun w => entryCheck_any ⟨⟨pl⟩⟩ (n : Int) k xA xl.length xc w (by show pl.length ≤ _; omega) hu hxl)
      rw [show tl ⟨⟨pl⟩⟩ = pl from rfl] at HCK
      by_cases hck : checkE pl (n : Int) k xl.length = 0
      · rw [hck] at HCK
        rw [entB_good hck, Int.toNat_natCast] at HLn
        clear hck
        go_wp2_with fail
        refine (HCK.out _).mono ?_
        rintro e w1 ⟨rfl, hb1⟩
        have hx1 : Blk w1 wr.heap.size 59 #[.string ⟨⟨pl⟩⟩, .int .u64 (n : Int), .int .i64 k, .slice xA xl.length xc] := (Blk.new wr 59 #[.string ⟨⟨pl⟩⟩, .int .u64 (n : Int), .int .i64 k, .slice xA xl.length xc]).below hb1
        have hlow1 : Below wr.heap.size wr w1 := ((Below.refl _ _).alloc (Nat.le_refl _) _).trans (hb1.mono (by simp))
        have hp1 : PenTo w base pb v Li w1 v' := hpi.mem hlow1
        have hn1 : wr.heap.size ≠ pb := by have := hpi.pen.blk.lt; omega
        have hn2 : v'.ownBlock ≠ some wr.heap.size := fun e => by have := (hpi.pen.own.lt _ e).2; omega
        have c0 : w1.cell? ⟨wr.heap.size, 0, none⟩ = some (.string ⟨⟨pl⟩⟩) := hx1.cell 0
        have hs1 := hlow1.size
        have hbx1 := hx1.lt
        clear hb1 HCK
        obtain ⟨cc, W2, hcv, hby, hcc1, hcc2, hlow2, hs2⟩ := conv_str w1 pl (by simp only [maxLen]; omega)
        go_wp2_with fail
        have hp2 := hp1.mem hlow2
        have hx2 := hx1.below hlow2
        clear hcv
        refine (Text_any base pb v' Li _ _ [⟨some ⟨w1.heap.size, 0, none⟩, cc, pl⟩] (fun b => b = w1.heap.size ∨ W2.heap.size ≤ b) _ (hp2.pen.alloc _) ((Rd.lit rfl rfl hs2.symm).mono (fun b _ hb => .inr hb)) ?_ ?_ ?_ ?_).mono ?_
        · intro y hy
          obtain rfl := List.mem_singleton.1 hy
          exact BV.ok.mono (BV.ok.below (w := W2) ⟨hby, hcc1, hcc2⟩ ((Below.refl _ _).alloc (Nat.le_refl _) _)) (fun b _ hb => .inl hb)
        · rintro b' _ hb' he
          have h9 := hp1.pen.blk.lt
          rcases he with rfl | he
          · rcases hb' with e | e <;> omega
          · have h8 := (hp1.pen.own.lt _ he).2
            rcases hb' with e | e <;> omega
        · simp; omega
        · simp [wide]; omega
        rintro e w3 ⟨rfl, v3, h3⟩
        have hp3 := hp2.trans (PenTo.after hp2.pen ((Below.refl _ _).alloc (Nat.le_refl _) _) h3)
        rw [List.flatMap_cons, List.flatMap_nil, List.append_nil] at hp3
        have hx3 := box_keep h3 (hx2.alloc _) hn1 hn2
        have hn3 : v3.ownBlock ≠ some wr.heap.size := by
          rcases h3.at_ with e | ⟨g, e, hg⟩
          · rw [e]; exact hn2
          · rw [e]
            intro e2
            injection e2 with e2
            simp at hg
            omega
        have c1 : w3.cell? ⟨wr.heap.size, 1, none⟩ = some (.int .u64 (n : Int)) := hx3.cell 1
        have hs3 := hp3.fr.size
        have htl := numB_len pl.length
        have htb : (textB pl).length ≤ 9 + pl.length := by unfold textB; rw [List.length_append]; omega
        have hs3' : W2.heap.size + 1 ≤ w3.heap.size := by have := h3.fr.size; simpa using this
        clear c0 hp1 hp2 hx1 hx2 h3 hby hlow2 hn2
        go_wp2_with fail
        refine (Num_any base pb v3 (Li ++ textB pl) _ _ [n] (fun b => w3.heap.size ≤ b) _ (hp3.pen.alloc _) (Rd.lit rfl rfl (by simp)) ?_ ?_ ?_ ?_).mono ?_
        · rintro b' _ hb' (rfl | e)
          · have := hp3.pen.blk.lt; omega
          · have := (hp3.pen.own.lt _ e).2; omega
        · simp; omega
        · simp; omega
        · simp; omega
        rintro e w4 ⟨rfl, v4, h4⟩
        have hp4 := hp3.trans (PenTo.after hp3.pen ((Below.refl _ _).alloc (Nat.le_refl _) _) h4)
        rw [List.flatMap_cons, List.flatMap_nil, List.append_nil] at hp4
        have hx4 := box_keep h4 (hx3.alloc _) hn1 hn3
        have c2 : w4.cell? ⟨wr.heap.size, 2, none⟩ = some (.int .i64 k) := hx4.cell 2
        have c3 : w4.cell? ⟨wr.heap.size, 3, none⟩ = some (.slice xA xl.length xc) := hx4.cell 3
        have hs4 := hp4.fr.size
        have hnb := numB_len n
        have hat4 := hp4.at_
        have hxs : BV.ok w4 (fun b => Z b ∧ b < w.heap.size) ⟨xA, xc, xl⟩ := (BV.ok.mono (Z' := fun b => Z b ∧ b < w.heap.size) hbx (fun b h1 h2 => ⟨h2, h1⟩)).fr hp4.fr (fun b _ h2 => hZ b h2.2 h2.1)
        clear c1 hp3 hx3 h4
        go_wp2_with fail
        refine (leafWrite_any base pb v4 (Li ++ textB pl ++ numB n) _ _ [⟨k, ⟨xA, xc, xl⟩⟩] (fun b => (Z b ∧ b < w.heap.size) ∨ w4.heap.size ≤ b) _ (hp4.pen.alloc _) ((Rd.lit rfl rfl (by simp)).mono (fun b _ hb => .inr hb)) ?_ ?_ ?_ ?_).mono ?_
        · intro y hy
          obtain rfl := List.mem_singleton.1 hy
          exact BV.ok.mono (BV.ok.below (w := w4) hxs ((Below.refl _ _).alloc (Nat.le_refl _) _)) (fun b _ hb => .inl hb)
        · rintro b' _ hb' he
          rcases hb' with hb' | hb'
          · refine hZ b' hb'.2 hb'.1 ?_
            rcases he with he | he
            · exact .inl he
            · rcases hat4 with e | ⟨g, e, hg⟩
              · exact .inr (by rw [← e]; exact he)
              · rw [e] at he
                injection he with he
                omega
          · rcases he with he | he
            · have := hp4.pen.blk.lt; omega
            · have := (hp4.pen.own.lt _ he).2; omega
        · simp; omega
        · simp only [wideL, List.length_append, List.map_cons, List.map_nil, List.sum_cons, List.sum_nil]; omega
        rintro e w5 ⟨rfl, v5, h5⟩
        have hp5 := hp4.trans (PenTo.after hp4.pen ((Below.refl _ _).alloc (Nat.le_refl _) _) h5)
        rw [List.flatMap_cons, List.flatMap_nil, List.append_nil, List.append_assoc, List.append_assoc] at hp5
        go_wp2_with fail
        go_roundw
        case rel => exact ⟨i + 1, _, v5, hlt, by go_num, hp5, HLn⟩
        case measure => simp [intOf]; omega
      · rw [entB_bad hck, List.append_nil] at HLn
        have hckb : (checkE pl (n : Int) k xl.length == 0) = false := by simpa using hck
        clear hck
        generalize checkE pl (n : Int) k xl.length = C at *
        go_wp2_with fail
        refine (HCK.out _).mono ?_
        rintro e w1 ⟨rfl, hb1⟩
        have hlow1 : Below wr.heap.size wr w1 := ((Below.refl _ _).alloc (Nat.le_refl _) _).trans (hb1.mono (by simp))
        have hp1 : PenTo w base pb v Li w1 v' := hpi.mem hlow1
        go_wp2_with fail
        go_roundw
        case rel => exact ⟨i + 1, _, v', hlt, by go_num, hp1, HLn⟩
        case measure => simp [intOf]; omega
    · have e : i = ls.length := by omega
      go_wp2_with fail
      go_end0
      subst e
      refine ⟨rfl, v', ?_⟩
      have hL : Li = l ++ ls.flatMap EV.b := by rw [hLi.out, List.take_length]
      rw [← hL]
      exact hpi
end Go.Proofs.YtdnljmncdbcgeaaGreat

/- tenderref07.Read, Bytes. -/
namespace Go.Proofs.YtdnljmncdbcgeaaGreat
open Go.RowKit

end Go.Proofs.YtdnljmncdbcgeaaGreat

/- tenderref07.Bytes. -/
namespace Go.Proofs.YtdnljmncdbcgeaaGreat
open Go.RowKit

set_option maxHeartbeats 1000000 in
theorem leafBytes_any (k : Int) (A : Option Addr) (c : Nat) (l : List UInt8) (Z : Nat → Prop) (w : World) (h : By w Z A l) (hl : l.length ≤ 140737488355328) (hk : -9223372036854775808 ≤ k ∧ k < 9223372036854775808) :
    Calls Tryz.prog 108 #[.agg #[.int .i64 k, .slice A l.length c]] w fun e w' => ∃ (A' : Option Addr) (c' : Nat) (l' : List UInt8), e = .returned (.slice A' l'.length c') ∧ Hid (l' = leafB k l) ∧ OwB w' w.heap.size (.slice A' l'.length c') l' ∧ Below w.heap.size w w' := by
  have b0 := Blk.new w 25 #[.int .i64 k, .slice A l.length c]
  have hlow0 : Below w.heap.size w (w.alloc (.cells #[.int .i64 k, .slice A l.length c] 25)) := (Below.refl _ _).alloc (Nat.le_refl _) _
  have hy := h.below hlow0
  by_cases hck : checkN k l.length = 0
  · obtain ⟨hk3, hn0, hl4⟩ := checkN_ok hck
    by_cases hk1 : k = 1
    · rw [leafB_file hck hk1]
      subst hk1
      have htxt : ∀ w (h : By w Z A l), Calls Tryz.prog 107 #[.slice A l.length c] w fun e w' => ∃ v, e = .returned v ∧ OwB w' w.heap.size v (textB l) ∧ Below w.heap.size w w' := fun w h => refText_any A c l Z w h (by omega)
      have HTXT := Lib.hid htxt
      have hol := numB_len l.length
      have htl : (textB l).length ≤ 9 + l.length := by unfold textB; rw [List.length_append]; omega
      clear htxt hol
      generalize textB l = T at *
      have hnum : ∀ w : World, Calls Tryz.prog 73 #[.int .u64 1] w fun e w' => ∃ v, e = .returned v ∧ OwB w' w.heap.size v (numB 1) ∧ Below w.heap.size w w' := fun w => refNum_any 1 w (by omega)
      have HNUM := Lib.hid hnum
      have hnl := numB_len 1
      clear hnum
      generalize numB 1 = N at *
      go_enter Tryz.func108, Tryz.ntmps108
      go_wp2_with fail
      refine (leafCheckR_any 1 A l.length c _ hl).mono ?_
      rintro e w1 ⟨rfl, hb1⟩
      have b1 := b0.below hb1
      have hy1 := hy.below hb1
      have hs1 := hb1.size
      have hw1 : Below w.heap.size w w1 := hlow0.trans (hb1.mono (by simp))
      have hsw := hw1.size
      have q0 : w1.cell? ⟨w.heap.size, 0, none⟩ = some (.int .i64 1) := b1.cell 0
      simp at hs1
      clear b0 hb1 hy hlow0 h
      rw [hck]
      go_wp2_with fail
      refine (HNUM.out _).mono ?_
      rintro e w2 ⟨v2, rfl, ho2, hb2⟩
      obtain ⟨A2, c2, rfl, _⟩ := ho2.form
      have b2 := b1.below hb2
      have hy2 := hy1.below hb2
      have r0 : w2.cell? ⟨w.heap.size, 0, none⟩ = some (.int .i64 1) := b2.cell 0
      have r1 : w2.cell? ⟨w.heap.size, 1, none⟩ = some (.slice A l.length c) := b2.cell 1
      go_wp2_with fail
      refine (HTXT.out w2 hy2).mono ?_
      rintro e w3 ⟨v3, rfl, ho3, hb3⟩
      have h23 := ho2.below hb3
      obtain ⟨A3, c3, rfl, _⟩ := ho3.form
      have hs2 := hb2.size
      have hs3 := hb3.size
      go_wp2_with (at_builtin; refine wpList_append_by rfl (.tmp 15) (.tmp 18) rfl (v := .slice A2 N.length c2) rfl h23 rfl ho3.rd (by omega) (by omega) ?_; intro L4 A4 c4 w4 hL4 hown hg hat)
      go_ret
      refine ⟨A4, c4, L4, rfl, hL4, own_base hown (fun g hg2 => Nat.le_trans hsw (hown.lt g hg2).1), ?_⟩
      exact (hw1.trans (hb2.mono hsw)).trans ((hb3.mono (by omega)).trans ((Fr.of_grown hg (S := fun x => w1.heap.size ≤ x) (fun k _ e => (h23.lt k e).1)).below (by omega) (fun k hk e => by omega)))
    · rw [leafB_other hck hk1]
      have hk1b : (k == 1) = false := by simpa using hk1
      obtain ⟨n, rfl⟩ : ∃ n : Nat, k = n := ⟨k.toNat, by omega⟩
      rw [Int.toNat_natCast]
      clear hn0
      have hnum : ∀ w : World, Calls Tryz.prog 73 #[.int .u64 (n : Int)] w fun e w' => ∃ v, e = .returned v ∧ OwB w' w.heap.size v (numB n) ∧ Below w.heap.size w w' := fun w => refNum_any n w (by omega)
      have HNUM := Lib.hid hnum
      have hnl := numB_len n
      clear hnum
      generalize numB n = N at *
      go_enter Tryz.func108, Tryz.ntmps108
      go_wp2_with fail
      refine (leafCheckR_any n A l.length c _ hl).mono ?_
      rintro e w1 ⟨rfl, hb1⟩
      have b1 := b0.below hb1
      have hy1 := hy.below hb1
      have hs1 := hb1.size
      have hw1 : Below w.heap.size w w1 := hlow0.trans (hb1.mono (by simp))
      have hsw := hw1.size
      have q0 : w1.cell? ⟨w.heap.size, 0, none⟩ = some (.int .i64 n) := b1.cell 0
      simp at hs1
      clear b0 hb1 hy hlow0 h
      rw [hck]
      go_wp2_with fail
      refine (HNUM.out _).mono ?_
      rintro e w2 ⟨v2, rfl, ho2, hb2⟩
      obtain ⟨A2, c2, rfl, _⟩ := ho2.form
      have b2 := b1.below hb2
      have r0 : w2.cell? ⟨w.heap.size, 0, none⟩ = some (.int .i64 n) := b2.cell 0
      go_wp2_with fail
      go_ret
      exact ⟨A2, c2, N, rfl, rfl, own_base ho2 (fun g hg => Nat.le_trans hsw (ho2.lt g hg).1), hw1.trans (hb2.mono hsw)⟩
  · rw [leafB_bad hck]
    have hnum : ∀ w : World, Calls Tryz.prog 73 #[.int .u64 0] w fun e w' => ∃ v, e = .returned v ∧ OwB w' w.heap.size v (numB 0) ∧ Below w.heap.size w w' := fun w => refNum_any 0 w (by omega)
    have HNUM := Lib.hid hnum
    have hnl := numB_len 0
    clear hnum
    generalize numB 0 = N at *
    go_enter Tryz.func108, Tryz.ntmps108
    go_wp2_with fail
    refine (leafCheckR_any k A l.length c _ hl).mono ?_
    rintro e w1 ⟨rfl, hb1⟩
    have b1 := b0.below hb1
    have hy1 := hy.below hb1
    have hs1 := hb1.size
    have hw1 : Below w.heap.size w w1 := hlow0.trans (hb1.mono (by simp))
    have hsw := hw1.size
    have q0 : w1.cell? ⟨w.heap.size, 0, none⟩ = some (.int .i64 k) := b1.cell 0
    simp at hs1
    clear b0 hb1 hy hlow0 h
    have hckb : (checkN k l.length != 0) = true := by simpa using hck
    go_wp2_with fail
    refine (HNUM.out _).mono ?_
    rintro e w2 ⟨v2, rfl, ho2, hb2⟩
    obtain ⟨A2, c2, rfl, _⟩ := ho2.form
    go_wp2_with fail
    go_ret
    exact ⟨A2, c2, N, rfl, rfl, own_base ho2 (fun g hg => Nat.le_trans hsw (ho2.lt g hg).1), hw1.trans (hb2.mono hsw)⟩
end Go.Proofs.YtdnljmncdbcgeaaGreat

/- tenderref21.Bytes. -/
namespace Go.Proofs.YtdnljmncdbcgeaaGreat
open Go.RowKit

set_option maxRecDepth 100000 in
set_option maxHeartbeats 1000000 in
theorem refEntryBytes_any (pl : List UInt8) (n : Nat) (k : Int) (A : Option Addr) (c : Nat) (l : List UInt8) (Z : Nat → Prop) (w : World) (h : By w Z A l) (hl : l.length ≤ 35184372088832) (hp : pl.length ≤ 35184372088832) (hn : n < 18446744073709551616) (hk : -9223372036854775808 ≤ k ∧ k < 9223372036854775808) :
    Calls Tryz.prog 74 #[.agg #[.string ⟨⟨pl⟩⟩, .int .u64 (n : Int), .int .i64 k, .slice A l.length c]] w fun e w' => ∃ (A' : Option Addr) (c' : Nat) (l' : List UInt8), e = .returned (.slice A' l'.length c') ∧ Hid (l' = entB pl l (n : Int) k) ∧ OwB w' w.heap.size (.slice A' l'.length c') l' ∧ Below w.heap.size w w' := by
  replace h := h.mono (Z' := fun b => b < w.heap.size) (fun b h1 _ => h1)
  have b0 := Blk.new w 59 #[.string ⟨⟨pl⟩⟩, .int .u64 (n : Int), .int .i64 k, .slice A l.length c]
  have hlow0 : Below w.heap.size w (w.alloc (.cells #[.string ⟨⟨pl⟩⟩, .int .u64 (n : Int), .int .i64 k, .slice A l.length c] 59)) := (Below.refl _ _).alloc (Nat.le_refl _) _
  have hy := h.below hlow0
  have HCK := Lib.hid (fun w => refEntryCheck_any ⟨⟨pl⟩⟩ (n : Int) k A l.length c w (by show pl.length ≤ _; omega) (by omega) (by omega))
  rw [show tl ⟨⟨pl⟩⟩ = pl from rfl] at HCK
  by_cases hck : checkE pl (n : Int) k l.length = 0
  · rw [entB_good hck, Int.toNat_natCast]
    rw [hck] at HCK
    clear hck
    have htxt : ∀ w A c Z (h : By w Z A pl), Calls Tryz.prog 107 #[.slice A pl.length c] w fun e w' => ∃ v, e = .returned v ∧ OwB w' w.heap.size v (textB pl) ∧ Below w.heap.size w w' := fun w A c Z h => refText_any A c pl Z w h (by omega)
    have HTXT := Lib.hid htxt
    have hol := numB_len pl.length
    have htl : (textB pl).length ≤ 9 + pl.length := by unfold textB; rw [List.length_append]; omega
    clear htxt hol
    generalize textB pl = T at *
    have hnum : ∀ w : World, Calls Tryz.prog 73 #[.int .u64 (n : Int)] w fun e w' => ∃ v, e = .returned v ∧ OwB w' w.heap.size v (numB n) ∧ Below w.heap.size w w' := fun w => refNum_any n w (by omega)
    have HNUM := Lib.hid hnum
    have hnl := numB_len n
    clear hnum
    generalize numB n = N at *
    have hlf := leafB_len k l
    have HLF := Lib.hid (fun W (h : By W (fun b => b < w.heap.size) A l) => leafBytes_any k A c l _ W h (by omega) hk)
    generalize leafB k l = F at *
    go_enter Tryz.func74, Tryz.ntmps74
    go_wp2_with fail
    refine (HCK.out _).mono ?_
    rintro e w1 ⟨rfl, hb1⟩
    have b1 := b0.below hb1
    have hy1 := hy.below hb1
    have hs1 := hb1.size
    have hw1 : Below w.heap.size w w1 := hlow0.trans (hb1.mono (by simp))
    have hsw := hw1.size
    have q0 : w1.cell? ⟨w.heap.size, 0, none⟩ = some (.string ⟨⟨pl⟩⟩) := b1.cell 0
    simp at hs1
    clear b0 hb1 hy hlow0 h HCK
    obtain ⟨cc, W2, hcv, hby, hcc1, hcc2, hlow2, hs2⟩ := conv_str w1 pl (by simp only [maxLen]; omega)
    go_wp2_with fail
    have b2 := b1.below hlow2
    have hy2 := hy1.below hlow2
    have hw2 := hw1.trans (hlow2.mono hsw)
    have hsw2 := hw2.size
    clear hcv b1 hy1 hw1 q0 hlow2
    refine (HTXT.out W2 _ _ _ hby).mono ?_
    rintro e w3 ⟨v3, rfl, ho3, hb3⟩
    obtain ⟨A3, c3, rfl, _⟩ := ho3.form
    have b3 := b2.below hb3
    have hy3 := hy2.below hb3
    have hw3 := hw2.trans (hb3.mono hsw2)
    have hsw3 := hw3.size
    have q1 : w3.cell? ⟨w.heap.size, 1, none⟩ = some (.int .u64 (n : Int)) := b3.cell 1
    have ho3' : OwB w3 w.heap.size (.slice A3 T.length c3) T := own_base (base' := w.heap.size) ho3 (fun g hg => by have := (ho3.lt g hg).1; omega)
    have hbl := b2.lt
    have hg3 : ∀ g, (Value.slice A3 T.length c3).ownBlock = some g → w.heap.size < g := fun g hg => by have := (ho3.lt g hg).1; omega
    clear b2 hy2 hby hb3 ho3
    go_wp2_with fail
    refine (HNUM.out _).mono ?_
    rintro e w4 ⟨v4, rfl, ho4, hb4⟩
    obtain ⟨A4, c4, rfl, _⟩ := ho4.form
    have b4 := b3.below hb4
    have hy4 := hy3.below hb4
    have h34 := ho3'.below hb4
    have hw4 := hw3.trans (hb4.mono hsw3)
    have hsw4 := hw4.size
    clear b3 hy3 ho3' hb4 q1
    go_wp2_with (at_builtin; refine wpList_append_by rfl (.tmp 11) (.tmp 14) rfl (v := .slice A3 T.length c3) rfl h34 rfl ho4.rd (by omega) (by omega) ?_; intro L5 A5 c5 w5 hL5 hown5 hg5 hat5; have hf5 := Fr.of_grown hg5 (S := fun x => w.heap.size < x) (fun k _ e => hg3 k e); have b5 := b4.fr hf5 (by omega); have hy5 := hy4.fr hf5 (fun b _ hz e => by omega); have hw5 := hw4.trans (hf5.below hsw4 (fun k hk e => by omega)); have hsw5 := hw5.size; have hL5l : L5.length ≤ 9 + pl.length + 9 := (by rw [hL5.out, List.length_append]; omega); have q2 : w5.cell? ⟨w.heap.size, 2, none⟩ = some (.int .i64 k) := b5.cell 2; have q3 : w5.cell? ⟨w.heap.size, 3, none⟩ = some (.slice A l.length c) := b5.cell 3)
    clear b4 hy4 h34 hg5 hf5
    refine (HLF.out _ hy5).mono ?_
    rintro e w6 ⟨A6, c6, l6, rfl, hl6, ho6, hb6⟩
    have hown6 := hown5.below hb6
    have hw6 := hw5.trans (hb6.mono hsw5)
    have hsw6 := hw6.size
    have hl6l : l6.length ≤ 18 + l.length := by rw [hl6.out]; exact hlf
    go_wp2_with (at_builtin; refine wpList_append_by rfl (.tmp 16) (.tmp 19) rfl (v := .slice A5 L5.length c5) rfl hown6 rfl ho6.rd (by omega) (by omega) ?_; intro L7 A7 c7 w7 hL7 hown7 hg7 hat7)
    go_ret
    refine ⟨A7, c7, L7, rfl, ?_, hown7, ?_⟩
    · show _ = _
      rw [hL7.out, hL5.out, hl6.out, List.append_assoc]
    · exact hw6.trans ((Fr.of_grown hg7 (S := fun x => w.heap.size ≤ x) (fun k _ e => (hown6.lt k e).1)).below hsw6 (fun k hk e => by omega))
  · rw [entB_bad hck]
    have hckb : (checkE pl (n : Int) k l.length != 0) = true := by simpa using hck
    clear hck
    generalize checkE pl (n : Int) k l.length = C at *
    go_enter Tryz.func74, Tryz.ntmps74
    go_wp2_with fail
    refine (HCK.out _).mono ?_
    rintro e w1 ⟨rfl, hb1⟩
    have hw1 : Below w.heap.size w w1 := hlow0.trans (hb1.mono (by simp))
    go_wp2_with fail
    go_ret
    exact ⟨none, 0, [], rfl, Lib.hid rfl, OwB.nil _ _, hw1⟩
end Go.Proofs.YtdnljmncdbcgeaaGreat

/- tenderlaw21: lives. -/
namespace Go.Proofs.YtdnljmncdbcgeaaGreat
open Go.RowKit

end Go.Proofs.YtdnljmncdbcgeaaGreat

/- What was written is read as it was: the plain law. -/
namespace Go.Proofs.YtdnljmncdbcgeaaGreat
open Go.RowKit

theorem val_digs : ∀ (k n : Nat), k ≤ 8 → n < 256 ^ k → val (digs n) = n ∧ (0 < n → (digs n).getD 0 0 ≠ 0 ∧ 0 < (digs n).length)
  | 0, n, _, h => by
    have : n = 0 := by simpa using h
    subst this
    rw [digs_zero]
    exact ⟨rfl, fun h => absurd h (by omega)⟩
  | k + 1, n, hk, h => by
    rcases Nat.eq_zero_or_pos n with h0 | h0
    · subst h0
      rw [digs_zero]
      exact ⟨rfl, fun h => absurd h (by omega)⟩
    · have h64 : n < 18446744073709551616 := Nat.lt_of_lt_of_le h (pow_le8 hk)
      have h' : n / 256 < 256 ^ k := by
        rw [Nat.div_lt_iff_lt_mul (by omega)]
        rw [Nat.pow_succ] at h
        exact h
      obtain ⟨i1, i2⟩ := val_digs k (n / 256) (by omega) h'
      rw [digs_step h0 h64, val_snoc, i1, UInt8.toNat_ofNat', Nat.mod_mod]
      refine ⟨by omega, fun _ => ⟨?_, by simp⟩⟩
      rcases Nat.eq_zero_or_pos (n / 256) with h1 | h1
      · rw [h1, digs_zero]
        intro e
        have e2 : UInt8.ofNat (n % 256) = 0 := by simpa using e
        have e3 := congrArg UInt8.toNat e2
        rw [UInt8.toNat_ofNat', Nat.mod_mod] at e3
        have : (0 : UInt8).toNat = 0 := rfl
        omega
      · obtain ⟨j1, j2⟩ := i2 h1
        rw [List.getD_eq_getElem?_getD, List.getElem?_append_left j2, ← List.getD_eq_getElem?_getD]
        exact j1

theorem read_numB {n most : Nat} (t : List UInt8) (h : n < 18446744073709551616) (hm : n ≤ most) : readS (numB n ++ t) 0 most = (n, t, 0) := by
  obtain ⟨v1, v2⟩ := val_digs 8 n (by omega) h
  have h8 := digs_len n
  have hx : (UInt8.ofNat (digs n).length).toNat = (digs n).length := by rw [UInt8.toNat_ofNat', Nat.mod_eq_of_lt (by omega)]
  unfold numB
  rw [List.cons_append]
  have htk : (digs n ++ t).take (digs n).length = digs n := List.take_left
  have hdr : (digs n ++ t).drop (digs n).length = t := List.drop_left
  rw [readS_ok]
  · rw [hx, htk, hdr, v1]
  · rw [hx]; omega
  · rw [hx, List.length_append]; omega
  · rw [hx]
    rintro ⟨h1, h2⟩
    rw [List.getD_eq_getElem?_getD, List.getElem?_append_left h1, ← List.getD_eq_getElem?_getD] at h2
    have h0 : 0 < n := by
      rcases Nat.eq_zero_or_pos n with h0 | h0
      · subst h0; rw [digs_zero] at h1; simp at h1
      · exact h0
    exact (v2 h0).1 h2
  · rw [hx, htk, v1]; omega
theorem int_numB {n : Nat} {most : Int} (t : List UInt8) (h : n < 9223372036854775808) (hm : (n : Int) ≤ most) : intS (numB n ++ t) 0 most = (n, t, 0) := by
  unfold intS
  rw [if_pos (by omega), read_numB t (by omega) (by omega)]
theorem text_textB {l : List UInt8} {most : Int} (t : List UInt8) (h : l.length < 9223372036854775808) (hm : (l.length : Int) ≤ most) : textS (textB l ++ t) 0 most = (l, t, 0) := by
  unfold textS textB
  rw [List.append_assoc, int_numB _ h hm]
  simp
end Go.Proofs.YtdnljmncdbcgeaaGreat

/- EntryWrites is true for every input: the bytes of any entries are the document's; right ones are read of them as they were. No condition beyond the row's own. -/
namespace Go.Proofs.YtdnljmncdbcgeaaGreat
open Go.RowKit Go.WideShapes Go.ChangeShapes Go.ChangeAt

theorem leafS_again {k : Int} {l : List UInt8} (t : List UInt8) (hck : checkN k l.length = 0) : leafS (leafB k l ++ t) 0 = (k.toNat, l, t, 0) := by
  obtain ⟨hk, hn0, hl⟩ := checkN_ok hck
  by_cases hk1 : k = 1
  · rw [leafB_file hck hk1]
    subst hk1
    unfold leafS
    rw [List.append_assoc, int_numB _ (by omega) (by omega)]
    dsimp only
    rw [if_pos rfl, text_textB t (by omega) (by omega)]
    simp
  · rw [leafB_other hck hk1]
    have hl0 : l = [] := List.eq_nil_of_length_eq_zero (hn0 hk1)
    unfold leafS
    rw [int_numB _ (by omega) (by omega)]
    have hk2 : ¬ k.toNat = 1 := by omega
    subst hl0
    simp [hk2]
theorem checkE_ok {p : List UInt8} {v k : Int} {n : Nat} (h : checkE p v k n = 0) : p.length ≤ 96 ∧ checkN k n = 0 := by
  unfold checkE at h
  cases hu : userB p
  · rw [hu, if_pos rfl] at h; simp at h
  · rw [hu, if_neg (by simp)] at h
    cases hv : isV v
    · rw [hv, if_pos rfl] at h; simp at h
    · rw [hv, if_neg (by simp)] at h
      refine ⟨?_, h⟩
      unfold userB at hu
      rw [Bool.and_eq_true] at hu
      exact goodB_len hu.1
theorem checkE_bad {p : List UInt8} {v k : Int} {n : Nat} (h : checkE p v k n ≠ 0) : checkE p v k n = 23 ∨ checkE p v k n = 2 ∨ checkE p v k n = 13 := by
  revert h
  unfold checkE checkN
  repeat' split
  all_goals simp
theorem entS_back {p l : List UInt8} {n : Nat} {k : Int} (t : List UInt8) (hn : n < 18446744073709551616) (h : checkE p (n : Int) k l.length = 0) : entS (entB p l (n : Int) k ++ t) 0 = ⟨p, n, k.toNat, l, t, 0⟩ := by
  obtain ⟨hp, hck⟩ := checkE_ok h
  obtain ⟨hk, _, _⟩ := checkN_ok hck
  rw [entB_good h, Int.toNat_natCast, List.append_assoc, List.append_assoc]
  unfold entS
  rw [text_textB _ (by omega) (by omega)]
  dsimp only
  rw [read_numB _ hn (by omega)]
  dsimp only
  rw [leafS_again t hck]
  dsimp only
  rw [show ((k.toNat : Nat) : Int) = k by omega, if_pos h]
  simp

def ewRel (l : List EV) (w2 : World) (iv wv : Value) (wr : World) : Prop :=
  ∃ (i : Nat) (L : List UInt8) (A : Option Addr) (c : Nat), i ≤ l.length ∧ iv = .int .i64 (i : Int) ∧ wv = .slice A L.length c ∧ OwB wr w2.heap.size (.slice A L.length c) L ∧ Hid (L = (l.take i).flatMap EV.b) ∧ Below w2.heap.size w2 wr

end Go.Proofs.YtdnljmncdbcgeaaGreat

/-
  DERIVED: THE SHELF's CONTRACTS AT THIS DUMP, IN PLAIN WORDS (tools/lay-plain.mjs out of 'TryzLays.lean', which tools/lay-shelf.mjs wrote): THE SAME DECLARATIONS UNDER THE SAME NAMES: 'import', 'namespace', 'open', 'def', 'theorem' AND NOTHING ELSE: no command of the shelf's: FOR A HAND-IN. Each laying: the table of numbers ('.._ren') and one theorem, a field a fact of the dump's own or the kernel's comparison; each contract: ONE APPLICATION.
-/
namespace Go.Proofs
open Go.Shelf
def Tryz.sortT_ren : Go.Shelf.Ren := ⟨fun | 6 => 130 | 15 => 146 | 14 => 145 | 28 => 163 | 29 => 126 | 20 => 155 | 21 => 156 | 22 => 157 | 23 => 158 | 24 => 159 | 25 => 160 | 26 => 161 | 27 => 162 | 46 => 167 | 47 => 168 | 48 => 169 | 49 => 170 | 50 => 171 | 57 => 172 | n => n, fun | 22 => 54 | 24 => 9 | 25 => 137 | 3 => 3 | 39 => 166 | 0 => 0 | 53 => 211 | 55 => 48 | 4 => 4 | 46 => 204 | 45 => 203 | 50 => 208 | 5 => 5 | 9 => 9 | 66 => 214 | 70 => 217 | 76 => 219 | 77 => 220 | n => n, fun | n => n⟩
theorem Tryz.sortT : Go.Proofs.SlLaysF.n6 Tryz.prog Tryz.sortT_ren := {
  mixed := by kernel_rfl
  f6 := ⟨Tryz.f130.name, by decide, Tryz.func130.trans (congrArg some (by kernel_rfl))⟩
  f14 := ⟨Tryz.f145.name, by decide, Tryz.func145.trans (congrArg some (by kernel_rfl))⟩
  f15 := Tryz.func146.trans (congrArg some (by kernel_rfl))
  f20 := ⟨Tryz.f155.name, by decide, Tryz.func155.trans (congrArg some (by kernel_rfl))⟩
  f21 := ⟨Tryz.f156.name, by decide, Tryz.func156.trans (congrArg some (by kernel_rfl))⟩
  f22 := ⟨Tryz.f157.name, by decide, Tryz.func157.trans (congrArg some (by kernel_rfl))⟩
  f23 := ⟨Tryz.f158.name, by decide, Tryz.func158.trans (congrArg some (by kernel_rfl))⟩
  f24 := ⟨Tryz.f159.name, by decide, Tryz.func159.trans (congrArg some (by kernel_rfl))⟩
  f25 := ⟨Tryz.f160.name, by decide, Tryz.func160.trans (congrArg some (by kernel_rfl))⟩
  f26 := ⟨Tryz.f161.name, by decide, Tryz.func161.trans (congrArg some (by kernel_rfl))⟩
  f27 := ⟨Tryz.f162.name, by decide, Tryz.func162.trans (congrArg some (by kernel_rfl))⟩
  f28 := Tryz.func163.trans (congrArg some (by kernel_rfl))
  f29 := Tryz.func126.trans (congrArg some (by kernel_rfl))
  f46 := ⟨Tryz.f167.name, by decide, Tryz.func167.trans (congrArg some (by kernel_rfl))⟩
  f47 := Tryz.func168.trans (congrArg some (by kernel_rfl))
  f48 := Tryz.func169.trans (congrArg some (by kernel_rfl))
  f49 := ⟨Tryz.f170.name, by decide, Tryz.func170.trans (congrArg some (by kernel_rfl))⟩
  f50 := ⟨Tryz.f171.name, by decide, Tryz.func171.trans (congrArg some (by kernel_rfl))⟩
  f57 := ⟨Tryz.f172.name, by decide, Tryz.func172.trans (congrArg some (by kernel_rfl))⟩
  t0 := Tryz.underlying0
  a0 := Tryz.isAgg0
  z0 := Tryz.sizeOf0
  v0 := Tryz.zeroValue0
  t3 := Tryz.underlying3
  a3 := Tryz.isAgg3
  z3 := Tryz.sizeOf3
  v3 := Tryz.zeroValue3
  t4 := Tryz.underlying4
  a4 := Tryz.isAgg4
  z4 := Tryz.sizeOf4
  v4 := Tryz.zeroValue4
  t5 := Tryz.underlying5
  a5 := Tryz.isAgg5
  z5 := Tryz.sizeOf5
  v5 := Tryz.zeroValue5
  t9 := Tryz.underlying9
  a9 := Tryz.isAgg9
  z9 := Tryz.sizeOf9
  v9 := Tryz.zeroValue9
  t22 := Tryz.underlying54
  a22 := Tryz.isAgg54
  z22 := Tryz.sizeOf54
  v22 := Tryz.zeroValue54
  a24 := Tryz.isAgg9
  z24 := Tryz.sizeOf9
  t25 := Tryz.underlying137
  a25 := Tryz.isAgg137
  z25 := Tryz.sizeOf137
  v25 := Tryz.zeroValue137
  t39 := Tryz.underlying166
  a39 := Tryz.isAgg166
  z39 := Tryz.sizeOf166
  v39 := Tryz.zeroValue166
  t45 := Tryz.underlying203
  a45 := Tryz.isAgg203
  z45 := Tryz.sizeOf203
  v45 := Tryz.zeroValue203
  t46 := Tryz.underlying204
  a46 := Tryz.isAgg204
  z46 := Tryz.sizeOf204
  v46 := Tryz.zeroValue204
  t50 := Tryz.underlying208
  a50 := Tryz.isAgg208
  z50 := Tryz.sizeOf208
  v50 := Tryz.zeroValue208
  t53 := Tryz.underlying211
  a53 := Tryz.isAgg211
  z53 := Tryz.sizeOf211
  v53 := Tryz.zeroValue211
  t55 := Tryz.underlying48
  a55 := Tryz.isAgg48
  z55 := Tryz.sizeOf48
  v55 := Tryz.zeroValue48
  t66 := Tryz.underlying214
  a66 := Tryz.isAgg214
  z66 := Tryz.sizeOf214
  v66 := Tryz.zeroValue214
  t70 := Tryz.underlying217
  a70 := Tryz.isAgg217
  z70 := Tryz.sizeOf217
  v70 := Tryz.zeroValue217
  t76 := Tryz.underlying219
  a76 := Tryz.isAgg219
  z76 := Tryz.sizeOf219
  v76 := Tryz.zeroValue219
  t77 := Tryz.underlying220
  a77 := Tryz.isAgg220
  z77 := Tryz.sizeOf220
  v77 := Tryz.zeroValue220 }
def Tryz.cloneM_ren : Go.Shelf.Ren := ⟨fun | 5 => 135 | 7 => 93 | n => n, fun | 23 => 86 | 25 => 9 | 3 => 25 | 4 => 4 | 20 => 20 | n => n, fun | n => n⟩
theorem Tryz.cloneM : Go.Proofs.SlLaysW.n5 Tryz.prog Tryz.cloneM_ren := {
  mixed := by kernel_rfl
  f5 := ⟨Tryz.f135.name, by decide, Tryz.func135.trans (congrArg some (by kernel_rfl))⟩
  f7 := Tryz.func93.trans (congrArg some (by kernel_rfl))
  t4 := Tryz.underlying4
  a4 := Tryz.isAgg4
  z4 := Tryz.sizeOf4
  v4 := Tryz.zeroValue4
  t20 := Tryz.underlying20
  a20 := Tryz.isAgg20
  z20 := Tryz.sizeOf20
  v20 := Tryz.zeroValue20
  t23 := Tryz.underlying86
  a23 := Tryz.isAgg86
  z23 := Tryz.sizeOf86
  v23 := Tryz.zeroValue86 }
def Tryz.keysB_ren : Go.Shelf.Ren := ⟨fun | 7 => 110 | 10 => 131 | n => n, fun | 23 => 117 | 26 => 9 | 3 => 59 | 28 => 174 | 0 => 0 | 27 => 173 | 33 => 144 | 4 => 4 | n => n, fun | n => n⟩
theorem Tryz.keysB : Go.Proofs.SlLaysZ.n7 Tryz.prog Tryz.keysB_ren := {
  mixed := by kernel_rfl
  f7 := ⟨Tryz.f110.name, by decide, Tryz.func110.trans (congrArg some (by kernel_rfl))⟩
  f10 := ⟨Tryz.f131.name, by decide, Tryz.func131.trans (congrArg some (by kernel_rfl))⟩
  t0 := Tryz.underlying0
  a0 := Tryz.isAgg0
  z0 := Tryz.sizeOf0
  v0 := Tryz.zeroValue0
  t4 := Tryz.underlying4
  a4 := Tryz.isAgg4
  z4 := Tryz.sizeOf4
  v4 := Tryz.zeroValue4
  t23 := Tryz.underlying117
  a23 := Tryz.isAgg117
  z23 := Tryz.sizeOf117
  v23 := Tryz.zeroValue117
  t26 := Tryz.underlying9
  a26 := Tryz.isAgg9
  z26 := Tryz.sizeOf9
  v26 := Tryz.zeroValue9
  t27 := Tryz.underlying173
  a27 := Tryz.isAgg173
  z27 := Tryz.sizeOf173
  v27 := Tryz.zeroValue173
  t28 := Tryz.underlying174
  a28 := Tryz.isAgg174
  z28 := Tryz.sizeOf174
  v28 := Tryz.zeroValue174
  t33 := Tryz.underlying144
  a33 := Tryz.isAgg144
  z33 := Tryz.sizeOf144
  v33 := Tryz.zeroValue144 }
def Tryz.collectB_ren : Go.Shelf.Ren := ⟨fun | 8 => 129 | 11 => 144 | n => n, fun | 26 => 9 | 28 => 174 | 24 => 54 | 0 => 0 | 33 => 144 | 4 => 4 | n => n, fun | n => n⟩
theorem Tryz.collectB : Go.Proofs.SlLaysZ.n8 Tryz.prog Tryz.collectB_ren := {
  mixed := by kernel_rfl
  f8 := ⟨Tryz.f129.name, by decide, Tryz.func129.trans (congrArg some (by kernel_rfl))⟩
  f11 := ⟨Tryz.f144.name, by decide, Tryz.func144.trans (congrArg some (by kernel_rfl))⟩
  t0 := Tryz.underlying0
  a0 := Tryz.isAgg0
  z0 := Tryz.sizeOf0
  v0 := Tryz.zeroValue0
  t24 := Tryz.underlying54
  a24 := Tryz.isAgg54
  z24 := Tryz.sizeOf54
  v24 := Tryz.zeroValue54
  t26 := Tryz.underlying9
  a26 := Tryz.isAgg9
  z26 := Tryz.sizeOf9
  v26 := Tryz.zeroValue9
  t28 := Tryz.underlying174
  a28 := Tryz.isAgg174
  z28 := Tryz.sizeOf174
  v28 := Tryz.zeroValue174
  i26 := by kernel_rfl }
def Tryz.cloneB_ren : Go.Shelf.Ren := ⟨fun | 5 => 56 | 7 => 93 | n => n, fun | 23 => 117 | 25 => 9 | 3 => 59 | 4 => 4 | 20 => 20 | n => n, fun | n => n⟩
theorem Tryz.cloneB : Go.Proofs.SlLaysW.n5 Tryz.prog Tryz.cloneB_ren := {
  mixed := by kernel_rfl
  f5 := ⟨Tryz.f56.name, by decide, Tryz.func56.trans (congrArg some (by kernel_rfl))⟩
  f7 := Tryz.func93.trans (congrArg some (by kernel_rfl))
  t4 := Tryz.underlying4
  a4 := Tryz.isAgg4
  z4 := Tryz.sizeOf4
  v4 := Tryz.zeroValue4
  t20 := Tryz.underlying20
  a20 := Tryz.isAgg20
  z20 := Tryz.sizeOf20
  v20 := Tryz.zeroValue20
  t23 := Tryz.underlying117
  a23 := Tryz.isAgg117
  z23 := Tryz.sizeOf117
  v23 := Tryz.zeroValue117 }
end Go.Proofs

/- slices.SortFunc of texts by name.Compare: a row of the call's own, in the paths' order. -/
namespace Go.Proofs.YtdnljmncdbcgeaaGreat
open Go.Shelf Go.RowKit Go.Lib Go.Sort

/-- a text that is no longer than a text may be -/
abbrev TxtB := { l : List UInt8 // l.length ≤ 9223372036854775807 }
instance : Inhabited TxtB := ⟨⟨[], by simp⟩⟩
def txtV (x : TxtB) : Value := .string ⟨⟨x.1⟩⟩
def cmpX (x y : TxtB) : Int := cmpT x.1 y.1

section
variable {α : Type} [Inhabited α] {enc : α → Value}
theorem heap_sortedG {w : World} {g n : Nat} {os : Array Obj} {cur : Array Value} {e : TypeId} {fr : Nat × Nat} (d : Array α) (hb : w.heap[g]? = some (.cells cur e fr)) :
    (grow (putRow enc (Sort.ahead w n) g 0 d) os).heap[g]? = some (.cells (putCells enc 0 d cur) e fr) := by
  have hg : g < w.heap.size := (Array.getElem?_eq_some_iff.1 hb).1
  rw [heap_grow_old _ _ (by simpa using hg)]
  simp [putRow, mapBlock, Sort.ahead, Array.getElem?_modify, hb, onCells]
theorem grownBy_sortedG {w : World} {g n : Nat} {os : Array Obj} (d : Array α) : w.grownBy (grow (putRow enc (Sort.ahead w n) g 0 d) os) (some g) := by
  refine ⟨rfl, rfl, rfl, by simp, fun k hk hne => ?_⟩
  rw [heap_grow_old _ _ (by simpa using hk)]
  have : g ≠ k := fun e => hne (by rw [e])
  simp [putRow, mapBlock, Sort.ahead, Array.getElem?_modify, this]
theorem take_putCellsG (cur : Array Value) (ts : List α) (h : ts.length ≤ cur.size) : (putCells enc 0 ts.toArray cur).toList.take ts.length = ts.map enc := by
  apply List.ext_getElem?
  intro j
  by_cases hj : j < ts.length
  · rw [List.getElem?_take_of_lt hj, Array.getElem?_toList]
    simp [putCells, hj, show j < cur.size by omega]
  · rw [List.getElem?_take_eq_none (by omega), List.getElem?_eq_none (by simp; omega)]
theorem ownsRow_sortedG {w : World} {base g cap n : Nat} {e : TypeId} {os : Array Obj} {cur : Array Value} {ss ts : List α} (hl : ts.length = ss.length) (hbase : base ≤ g) (hb : w.heap[g]? = some (.cells cur e (0, 0)))
    (h1 : ss.length ≤ cap) (h2 : cap ≤ maxLen) (h3 : cur.size = cap * 1) :
    (grow (putRow enc (Sort.ahead w n) g 0 ts.toArray) os).ownsRow base e 1 (.slice (some ⟨g, 0, none⟩) ss.length cap) ss.length (ts.map enc) :=
  ⟨by simp [hl], .inr ⟨g, cap, _, rfl, hbase, heap_sortedG _ hb, h1, h2, by simp [putCells, h3], by rw [Nat.mul_one, ← hl]; exact take_putCellsG cur ts (by omega)⟩⟩
theorem holds_of_blockG {w : World} {g : Nat} {cur : Array Value} {e : TypeId} {ss : List α} (hb : w.heap[g]? = some (.cells cur e (0, 0))) (ht : cur.toList.take ss.length = ss.map enc) : Holds enc w g 0 ss.toArray := by
  intro j hj
  have hj' : j < ss.length := by simpa using hj
  refine ⟨?_, by simp [World.frozen?, hb]⟩
  have h1 : (cur.toList.take ss.length)[j]? = (ss.map enc)[j]? := by rw [ht]
  rw [List.getElem?_take_of_lt hj'] at h1
  simp only [World.cell?, hb, Nat.zero_add]
  simp only [Option.isSome_none, Bool.false_eq_true, if_false]
  rw [← Array.getElem?_toList, h1]
  simp [hj']
end
theorem cmpX_lt (x y : TxtB) : ltOf cmpX x y = decide (cmpT x.1 y.1 < 0) := rfl
theorem swoX : SWO (ltOf cmpX) where
  irrefl x := by rw [cmpX_lt, cmpT_self]; simp
  trans x y z h1 h2 := by
    rw [cmpX_lt] at *
    simp only [decide_eq_true_eq] at *
    exact ordT.trans _ _ _ h1 h2
  ntrans x y z h1 h2 := by
    rw [cmpX_lt] at *
    have := leT_trans z.1 y.1 x.1 (by simpa [leT] using h2) (by simpa [leT] using h1)
    simpa [leT] using this
theorem totX (x y : TxtB) (h1 : ltOf cmpX x y = false) (h2 : ltOf cmpX y x = false) : x = y := by
  rw [cmpX_lt] at *
  exact Subtype.ext (leT_anti x.1 y.1 (by simpa [leT] using h2) (by simpa [leT] using h1))
theorem cmpReadsX (blk off size : Nat) (w : World) : CmpReads Tryz.prog 70 #[] txtV cmpX blk off size w := by
  intro m os dk _ x y
  refine (compare_any ⟨⟨x.1⟩⟩ ⟨⟨y.1⟩⟩ x.2 y.2 _).mono ?_
  rintro e w' ⟨rfl, hq⟩
  exact ⟨rfl, hq⟩
theorem txts : ∀ (ss : List (List UInt8)), (∀ x ∈ ss, x.length ≤ 140737488355328) → ∃ ts : List TxtB, ts.map Subtype.val = ss
  | [], _ => ⟨[], rfl⟩
  | x :: ss, h => by
    obtain ⟨ts, e⟩ := txts ss (fun y hy => h y (by simp [hy]))
    exact ⟨⟨x, by have := h x (by simp); omega⟩ :: ts, by rw [List.map_cons, e]⟩
set_option maxHeartbeats 1000000 in
/-- a row of texts is sorted by name.Compare -/
theorem sortsT : SortsT := by
  intro base A c ss w hown hl hss
  obtain ⟨ts, hts⟩ := txts ss hl
  have hlen : ts.length = ss.length := by rw [← hts, List.length_map]
  have hmv : ss.map stv = ts.map txtV := by rw [← hts, List.map_map]; rfl
  rcases hown.2 with ⟨hnil, h0⟩ | ⟨g, cap, cur, hv, hbase, hb, h1, h2, h3, h4⟩
  · obtain ⟨rfl, hl0, rfl⟩ : A = none ∧ ss.length = 0 ∧ c = 0 := by simpa using hnil
    obtain rfl : ss = [] := List.eq_nil_of_length_eq_zero hl0
    have hcon := AnyF.slices_SortFunc_none { Tryz.sortT with } none 0 (.func (.func 70) #[] #[]) w
    change Calls Tryz.prog 130 _ _ _ at hcon
    refine hcon.mono ?_
    rintro e w' ⟨rfl, rfl⟩
    exact ⟨rfl, by simpa using hown, World.grownBy.refl _ _⟩
  · obtain ⟨rfl, rfl⟩ : A = some ⟨g, 0, none⟩ ∧ c = cap := by simpa using hv
    have eg : ∀ args w, (callFunc 70 args).run Tryz.prog w = .ok (.enter 70 args) w := enters_of Tryz.func70 (by kernel_rfl) rfl
    have hglt : g < w.heap.size := (Array.getElem?_eq_some_iff.1 hb).1
    have hH : Holds txtV w g 0 ts.toArray := holds_of_blockG hb (by rw [hlen, ← hmv]; simpa using h4)
    have hbig : ss.length < 4611686018427387904 := by omega
    have hcon := Any.slices_SortFunc_total Tryz.sortT txtV (fun _ => rfl) cmpX swoX 70 #[] g 0 c ts.toArray w eg (cmpReadsX g 0 ts.toArray.size w).lays hH hglt (by simpa [hlen] using hbig) totX
    change Calls Tryz.prog 130 _ _ _ at hcon
    rw [show ts.toArray.size = ss.length by simp [hlen]] at hcon
    refine hcon.mono ?_
    rintro e w' ⟨rfl, n, os, rfl⟩
    have hms : (ts.mergeSort fun x y => !(ltOf cmpX) y x).map Subtype.val = ss.mergeSort leT := by
      rw [← hts]
      exact List.map_mergeSort (fun a _ b _ => rfl)
    refine ⟨rfl, ?_, ?_⟩
    · have := ownsRow_sortedG (enc := txtV) (n := n) (os := os) (ts := ts.mergeSort fun x y => !(ltOf cmpX) y x) (ss := ts) (by rw [List.length_mergeSort]) hbase hb (by omega) h2 h3
      rw [hlen] at this
      have e2 : (ss.mergeSort leT).map stv = (ts.mergeSort fun x y => !(ltOf cmpX) y x).map txtV := by rw [← hms, List.map_map]; rfl
      rw [e2]
      exact this
    · exact grownBy_sortedG _
end Go.Proofs.YtdnljmncdbcgeaaGreat

/- book.Book's paths, in order. -/
namespace Go.Proofs.YtdnljmncdbcgeaaGreat
open Go.RowKit Go.Maps Go.Sort Go.Shelf

theorem keysB_any (mo : Option Nat) (W : World) : Calls Tryz.prog 110 #[.map mo] W fun e w' => e = .returned (.func (.func 131) #[] #[.pointer (some ⟨W.heap.size, 0, none⟩)]) ∧ w' = W.alloc (.cells #[.map mo] 117) :=
  (callsIn_wide (n := 5)).1 (AnyZ.keys_in Tryz.keysB Fence.wide 5 trivial rfl mo W)
set_option maxRecDepth 100000 in
set_option maxHeartbeats 1000000 in
theorem collectB_any {mb : Nat} {L : List (List UInt8 × Value)} (w : World) (h : MapAt w Tryz.prog 9 mb L) (hl : L.length ≤ 1000000) :
    Calls Tryz.prog 129 #[.func (.func 131) #[] #[.pointer (some ⟨w.heap.size, 0, none⟩)]] (w.alloc (.cells #[.map (some mb)] 117)) fun e w' => ∃ A c, ∃ ss : List (List UInt8), e = .returned (.slice A ss.length c) ∧ w'.ownsRow w.heap.size 9 1 (.slice A ss.length c) ss.length (ss.map stv) ∧ Hid (ss.Perm (keysR L)) ∧ Below w.heap.size w w' := by
  obtain ⟨D, hown, ht⟩ := h.own
  obtain ⟨hp, hz⟩ := own_keys hown Tryz.underlying9 ht h.sort
  have hseq : SeqGives Fence.wide 3 Tryz.prog 131 #[.pointer (some ⟨w.heap.size, 0, none⟩)] encStr (fun ss => ss.Perm (strKeys D)) (Maps.size D) (w.alloc (.cells #[.map (some mb)] 117)) :=
    AnyZ.keys_gives (ρ := Tryz.keysB_ren) { Tryz.keysB with } Fence.wide _ trivial rfl (by omega) w.heap.size mb L.length D _ (by simp) (by simp) (by
      obtain ⟨es, clock, hb, Ft, hs, hD⟩ := hown
      exact ⟨es, clock, (Below.heap_alloc _ _ mb h.lt).trans hb, Ft, hs, hD⟩)
  have cC := AnyZ.collect_in Tryz.collectB Fence.wide 5 trivial trivial rfl (by omega) 131 #[.pointer (some ⟨w.heap.size, 0, none⟩)] trivial (enters_of Tryz.func131 (by kernel_rfl) rfl) _ _ (by rw [hz]; simp only [maxLen]; omega) (by rw [hz]; omega) _ hseq
  change CallsIn _ _ Tryz.prog 129 _ _ _ at cC
  refine ((callsIn_wide (n := 5)).1 cC).mono ?_
  rintro e w' ⟨v, ss, rfl, hS, hrow, hnil, hb⟩
  have hrow2 := own_base (base' := w.heap.size) hrow (fun g hg => by have := (hrow.lt g hg).1; simp at this; omega)
  obtain ⟨A, c, rfl, _⟩ := own_form hrow2
  exact ⟨A, c, ss, rfl, hrow2, hS.trans hp.symm, ((Below.refl _ w).alloc (Nat.le_refl _) _).trans (hb.mono (by simp))⟩
set_option maxRecDepth 100000 in
set_option maxHeartbeats 1000000 in
theorem collectB_nil (w : World) :
    Calls Tryz.prog 129 #[.func (.func 131) #[] #[.pointer (some ⟨w.heap.size, 0, none⟩)]] (w.alloc (.cells #[.map none] 117)) fun e w' => ∃ A c, ∃ ss : List (List UInt8), e = .returned (.slice A ss.length c) ∧ w'.ownsRow w.heap.size 9 1 (.slice A ss.length c) ss.length (ss.map stv) ∧ Hid (ss.Perm (keysR ([] : List (List UInt8 × Value)))) ∧ Below w.heap.size w w' := by
  have hseq : SeqGives Fence.wide 3 Tryz.prog 131 #[.pointer (some ⟨w.heap.size, 0, none⟩)] encStr (fun ss => ss = []) 0 (w.alloc (.cells #[.map none] 117)) :=
    AnyZ.keys_gives_nil (ρ := Tryz.keysB_ren) { Tryz.keysB with } Fence.wide _ trivial rfl w.heap.size _ (by simp) (by simp)
  have cC := AnyZ.collect_in Tryz.collectB Fence.wide 5 trivial trivial rfl (by omega) 131 #[.pointer (some ⟨w.heap.size, 0, none⟩)] trivial (enters_of Tryz.func131 (by kernel_rfl) rfl) _ _ (by simp only [maxLen]; omega) (by omega) _ hseq
  change CallsIn _ _ Tryz.prog 129 _ _ _ at cC
  refine ((callsIn_wide (n := 5)).1 cC).mono ?_
  rintro e w' ⟨v, ss, rfl, hS, hrow, hnil, hb⟩
  have hrow2 := own_base (base' := w.heap.size) hrow (fun g hg => by have := (hrow.lt g hg).1; simp at this; omega)
  obtain ⟨A, c, rfl, _⟩ := own_form hrow2
  exact ⟨A, c, ss, rfl, hrow2, by show ss.Perm _; rw [hS]; exact List.Perm.refl _, ((Below.refl _ w).alloc (Nat.le_refl _) _).trans (hb.mono (by simp))⟩
/-- a map or none, as a row -/
def MapO (w : World) (mo : Option Nat) (L : List (List UInt8 × Value)) : Prop := (mo = none ∧ L = []) ∨ ∃ mb, mo = some mb ∧ MapAt w Tryz.prog 9 mb L
theorem MapO.sort {w : World} {mo : Option Nat} {L : List (List UInt8 × Value)} (h : MapO w mo L) : SortR L := by
  rcases h with ⟨_, rfl⟩ | ⟨mb, _, hm⟩
  · exact sortR_nil
  · exact hm.sort
theorem collectO_any {mo : Option Nat} {L : List (List UInt8 × Value)} (w : World) (h : MapO w mo L) (hl : L.length ≤ 1000000) :
    Calls Tryz.prog 129 #[.func (.func 131) #[] #[.pointer (some ⟨w.heap.size, 0, none⟩)]] (w.alloc (.cells #[.map mo] 117)) fun e w' => ∃ A c, ∃ ss : List (List UInt8), e = .returned (.slice A ss.length c) ∧ w'.ownsRow w.heap.size 9 1 (.slice A ss.length c) ss.length (ss.map stv) ∧ Hid (ss.Perm (keysR L)) ∧ Below w.heap.size w w' := by
  rcases h with ⟨rfl, rfl⟩ | ⟨mb, rfl, hm⟩
  · exact collectB_nil w
  · exact collectB_any w hm hl
set_option maxRecDepth 100000 in
set_option maxHeartbeats 1000000 in
theorem sortedB_any {mo : Option Nat} {L : List (List UInt8 × Value)} (w : World) (h : MapO w mo L) (hl : L.length ≤ 1000000) (hk : ∀ x ∈ L, x.1.length ≤ 140737488355328) :
    Calls Tryz.prog 109 #[.func (.func 131) #[] #[.pointer (some ⟨w.heap.size, 0, none⟩)], .func (.func 70) #[] #[]] (w.alloc (.cells #[.map mo] 117)) fun e w' => ∃ A c, e = .returned (.slice A L.length c) ∧ w'.ownsRow w.heap.size 9 1 (.slice A L.length c) L.length ((keysR L).map stv) ∧ Below w.heap.size w w' := by
  have HC := Lib.hid (collectO_any w h hl)
  have HS := Lib.hid h.sort
  have HK := Lib.hid hk
  clear h hk
  go_enter Tryz.func109, Tryz.ntmps109
  go_wp2_with fail
  refine HC.out.mono ?_
  rintro e w1 ⟨A, c, ss, rfl, hr, hp, hb⟩
  have hsl : ss.length = L.length := by rw [hp.out.length_eq, keys_len]
  have hmem : ∀ k, k ∈ ss ↔ k ∈ keysR L := fun k => hp.out.mem_iff
  have hfin : ss.mergeSort leT = keysR L := by
    have := sort_keys HS.out (fun _ => true) (hp.out.nodup_iff.2 HS.out.nodup) (fun k => by simp [hmem k])
    rwa [List.filter_eq_self.2 (fun _ _ => rfl)] at this
  have HT := sortsT w.heap.size A c ss w1 hr (fun x hx => by
    obtain ⟨y, hy, rfl⟩ := List.mem_map.1 ((hmem x).1 hx)
    exact HK.out y hy) (by omega)
  rw [hfin] at HT
  have hab : ∀ g, ablk A = some g → w.heap.size ≤ g := fun g hg => ((Row.of_own hr).lt g hg).1
  replace HT := Lib.hid HT
  have HSL := Lib.hid hsl
  clear hr hp hmem hfin HC hsl
  go_wp2_with fail
  refine HT.out.mono ?_
  rintro e w2 ⟨rfl, hr2, hg2⟩
  rw [HSL.out] at hr2
  rw [HSL.out]
  have HR := Lib.hid hr2
  have hw2 := hb.trans (grown_below hg2 hb.size hab)
  clear HT hr2 hg2 hb
  go_wp2_with fail
  go_ret
  exact ⟨A, c, rfl, HR.out, hw2⟩
set_option maxRecDepth 100000 in
set_option maxHeartbeats 1000000 in
/-- the paths of a book -/
theorem bookPaths_any (bb : Nat) (mo : Option Nat) (L : List (List UInt8 × EV)) (s : Int) (w : World) (h : BookAt w bb mo L s) :
    Calls Tryz.prog 76 #[.pointer (some ⟨bb, 0, none⟩)] w fun e w' => ∃ A c, e = .returned (.slice A L.length c) ∧ w'.ownsRow w.heap.size 9 1 (.slice A L.length c) L.length ((keysR L).map stv) ∧ Below w.heap.size w w' := by
  obtain ⟨_, c1⟩ := h.cells
  have hm : MapO w mo (mapB L) := by
    rcases h.map with ⟨e, e2⟩ | ⟨mb, e, hm⟩
    · exact .inl ⟨e, by rw [e2]; rfl⟩
    · exact .inr ⟨mb, e, hm⟩
  have hkm : keysR (mapB L) = keysR L := by simp [keysR, mapB, Function.comp_def]
  have HSB := sortedB_any w hm (by rw [mapB_len]; exact Nat.le_trans h.len (by omega)) (fun x hx => by
    obtain ⟨y, hy, rfl⟩ := List.mem_map.1 hx
    exact Nat.le_trans (h.keys hy) (by omega))
  rw [mapB_len, hkm] at HSB
  replace HSB := Lib.hid HSB
  have HKE := Lib.hid (keysB_any mo w)
  clear h hm hkm
  go_enter Tryz.func76, Tryz.ntmps76
  go_wp2_with fail
  refine HKE.out.mono ?_
  rintro e w1 ⟨rfl, rfl⟩
  go_wp2_with fail
  refine HSB.out.mono ?_
  rintro e w2 ⟨A, c, rfl, hr, hb⟩
  have HR := Lib.hid hr
  clear hr HSB HKE
  go_wp2_with fail
  go_ret
  exact ⟨A, c, rfl, HR.out, hb⟩
set_option maxRecDepth 100000 in
theorem bookPaths_nil (w : World) : Calls Tryz.prog 76 #[.pointer none] w fun e w' => e = .returned (.slice none 0 0) ∧ w = w' := by
  go_enter Tryz.func76, Tryz.ntmps76
  go_wp2_with fail
  go_ret
  exact ⟨rfl, rfl⟩
end Go.Proofs.YtdnljmncdbcgeaaGreat

/- Rows of entries of the call's own, bytes and all; append of one. -/
namespace Go.Proofs.YtdnljmncdbcgeaaGreat
open Go.RowKit

theorem own_apartE {w : World} {base base' : Nat} {e e' : TypeId} {s s' n n' : Nat} {v v' : Value} {xs xs' : List Value} (h : w.ownsRow base e s v n xs) (h' : w.ownsRow base' e' s' v' n' xs') (hne : e ≠ e') : ∀ g, v.ownBlock = some g → v'.ownBlock ≠ some g := by
  rcases h.2 with ⟨rfl, _⟩ | ⟨g', cap, cur, rfl, _, hh, _⟩
  · simp [Value.ownBlock]
  · intro g he
    have e1 : g' = g := by simpa [Value.ownBlock] using he
    subst e1
    have hb : Blk w g' e _ := hh
    exact Blk.own_ne hb h' (fun e => hne e.symm)
def OwE (w : World) (base : Nat) (A : Option Addr) (c : Nat) (M : List EV) : Prop := w.ownsRow base 59 4 (.slice A M.length c) M.length (M.flatMap EV.cells)
theorem entry_info : (Tryz.prog.info? 59).map (fun i => (i.zero, i.size, i.bytes)) = some (some (.agg #[.string ⟨#[]⟩, .int .u64 0, .int .i64 0, .slice none 0 0]), 4, 56) := by kernel_rfl
theorem entry_one (L : List EV) : ∀ u ∈ L.flatMap EV.cells, u.oneCell' = true := by
  intro u hu
  obtain ⟨x, _, hx⟩ := List.mem_flatMap.1 hu
  simp only [EV.cells, List.mem_cons, List.not_mem_nil, or_false] at hx
  rcases hx with rfl | rfl | rfl | rfl <;> rfl
/-- entries, each of the call's own -/
structure EsOwn (w : World) (base : Nat) (A : Option Addr) (c : Nat) (M : List EV) : Prop where
  row : OwE w base A c M
  byt : ∀ x ∈ M, OwB w base (.slice x.x.A x.x.l.length x.x.c) x.x.l
theorem EsOwn.nil (w : World) (base : Nat) : EsOwn w base none 0 [] := ⟨World.ownsRow_nil _ _ _ _, by simp⟩
theorem EsOwn.below {w w' : World} {base : Nat} {A : Option Addr} {c : Nat} {M : List EV} (h : EsOwn w base A c M) (k : Below w.heap.size w w') : EsOwn w' base A c M := ⟨own_below h.row k, fun x hx => own_below (h.byt x hx) k⟩
theorem EsOwn.base {w : World} {base base' : Nat} {A : Option Addr} {c : Nat} {M : List EV} (h : EsOwn w base A c M) (hb : base' ≤ base) : EsOwn w base' A c M :=
  ⟨own_base h.row (fun g hg => Nat.le_trans hb (h.row.lt g hg).1), fun x hx => own_base (h.byt x hx) (fun g hg => Nat.le_trans hb ((h.byt x hx).lt g hg).1)⟩
theorem EsOwn.push {w w' : World} {base : Nat} {A A' : Option Addr} {c c' : Nat} {M : List EV} {y : EV} (h : EsOwn w base A c M) (hy : OwB w base (.slice y.x.A y.x.l.length y.x.c) y.x.l) (hr : OwE w' base A' c' (M ++ [y])) (hb : Below base w w')
    (hk : ∀ k, k < w.heap.size → (Value.slice A M.length c).ownBlock ≠ some k → w'.heap[k]? = w.heap[k]?) : EsOwn w' base A' c' (M ++ [y]) := by
  have hf : Fr (fun k => (Value.slice A M.length c).ownBlock = some k) w w' := ⟨hb.os, hb.tape, hb.output, hb.size, hk⟩
  refine ⟨hr, fun x hx => ?_⟩
  rcases List.mem_append.1 hx with hx | hx
  · exact own_fr (h.byt x hx) hf (own_apartE (h.byt x hx) h.row (by decide))
  · rw [List.mem_singleton.1 hx]
    exact own_fr hy hf (own_apartE hy h.row (by decide))
/-- append of one entry -/
theorem wpList_append_entry {w : World} {ops : Array Oper} {rest : List Oper} {o : Oper} {a : Act} {Q : Exit → Act → World → Prop} (hgd : o.guard = none) (s x : Operand) {t : TypeId} (hu : Tryz.prog.underlying t = some (.slice 59))
    (ho : o.op = .call { callee := .builtin .append, args := #[s, x], argTypes := #[t, t] })
    {base : Nat} {A : Option Addr} {c : Nat} {L : List EV} {y : EV} {g : Nat} (hs : a.eval s = .slice A L.length c) (hown : OwE w base A c L) (hx : a.eval x = .slice (some ⟨g, 0, none⟩) 1 1) (hr : Rd w (fun _ => True) 4 (some ⟨g, 0, none⟩) 1 (EV.cells y))
    (hsum : L.length + 1 ≤ 1099511627776) (hbase : base ≤ w.heap.size)
    (h : ∀ (A' : Option Addr) (c' : Nat) (w' : World), OwE w' base A' c' (L ++ [y]) → Below base w w' → (∀ k, k < w.heap.size → (Value.slice A L.length c).ownBlock ≠ some k → w'.heap[k]? = w.heap[k]?) → wpList Tryz.prog ops Q rest (a.put o.dst (.slice A' (L.length + 1) c')) w') : wpList Tryz.prog ops Q (o :: rest) a w := by
  obtain ⟨i0, hi0, hz0, hz1, hz2⟩ := info_parts entry_info
  refine wpList_append_any w hgd s x _ ho base 59 i0 _ 4 56 hu hi0 hz0 hz1 hz2 rfl (by omega) (.slice A L.length c) L.length (L.flatMap EV.cells) hs hown _ _ 1 1 (EV.cells y) hx hr (fun u hu => entry_one [y] u (by simpa using hu)) (by simp only [maxLen]; omega) (by omega) hbase ?_
  intro v' w' h1 h2 h3
  obtain ⟨A', c', rfl, _⟩ := own_form h1
  refine h A' c' w' ?_ (grown_below h2 hbase (fun g e => (hown.lt g e).1)) (fun k hk hne => h2.block k hk (fun e => hne e.symm))
  unfold OwE
  rw [List.length_append, List.flatMap_append, List.flatMap_cons, List.flatMap_nil, List.append_nil]
  exact h1
end Go.Proofs.YtdnljmncdbcgeaaGreat

/- book.Book: Entries. -/
namespace Go.Proofs.YtdnljmncdbcgeaaGreat
open Go.RowKit

/-- an entry, plainly -/
def EV.pl (o : EV) : List UInt8 × Int × Int × List UInt8 := (tl o.p, o.v, o.k, o.x.l)
theorem txt_atE {w : World} {base : Nat} {A : Option Addr} {c : Nat} {l : List (List UInt8)} {n : Nat} (hn : n = l.length) (h : w.ownsRow base 9 1 (.slice A n c) n (l.map stv)) {i : Nat} (hi : i < l.length) :
    ∃ b off, A = some ⟨b, off, none⟩ ∧ b < w.heap.size ∧ w.cell? ⟨b, off + i, none⟩ = some (stv l[i]) := by
  have hr : Rd w (fun _ => True) 1 A n (l.map stv) := Rd.of_own h (fun _ _ _ => trivial)
  obtain ⟨b, off, hA, _, hb, hc⟩ := hr.2 (by omega)
  exact ⟨b, off, hA, hb, hc i _ (by rw [List.getElem?_map, List.getElem?_eq_getElem hi]; rfl)⟩
set_option maxRecDepth 100000 in
set_option maxHeartbeats 1000000 in
theorem bookEntries_any (bb : Nat) (mo : Option Nat) (L : List (List UInt8 × EV)) (s : Int) (w : World) (h : BookAt w bb mo L s) :
    Calls Tryz.prog 33 #[.pointer (some ⟨bb, 0, none⟩)] w fun e w' => ∃ (A : Option Addr) (c : Nat) (M : List EV), e = .returned (.slice A M.length c) ∧ Hid (M.map EV.pl = plainB L) ∧ EsOwn w' w.heap.size A c M ∧ Below w.heap.size w w' := by
  have HP := Lib.hid (bookPaths_any bb mo L s w h)
  have HB := Lib.hid h
  have HK := Lib.hid (fun x (hx : x ∈ L) => h.keys hx)
  have HS := Lib.hid h.sort
  have HPL : Hid ((L.map fun x => x.2.pl) = plainB L) := Lib.hid h.pl
  have hll := h.len
  clear h
  go_enter Tryz.func33, Tryz.ntmps33
  go_wp2_with fail
  refine HP.out.mono ?_
  rintro e w1 ⟨A1, c1, rfl, ho, hb1⟩
  have HO := Lib.hid ho
  clear HP ho
  go_wp2_with fail
  go_loopw [2, 8] (fun ov iv wr => ∃ (i : Nat) (A : Option Addr) (c : Nat) (M : List EV), i ≤ L.length ∧ iv = .int .i64 (i : Int) ∧ ov = .slice A M.length c ∧ Hid (M.map EV.pl = (L.take i).map fun x => x.2.pl) ∧ M.length = i ∧ EsOwn wr w1.heap.size A c M ∧ Below w1.heap.size w1 wr) (fun _ iv _ => L.length - (intOf iv).toNat)
  case atStart => exact ⟨0, none, 0, [], Nat.zero_le _, rfl, rfl, rfl, rfl, EsOwn.nil _ _, Below.refl _ _⟩
  case round =>
    obtain ⟨i, A, c, M, hi, rfl, rfl, hM, hMi, hO, hb⟩ := hrel
    have hw1r := hb1.trans (hb.mono hb1.size)
    by_cases hlt : i < L.length
    · have hkl : (keysR L).length = L.length := keys_len L
      obtain ⟨b, off, hA, hbb, c0⟩ := txt_atE hkl.symm (own_below HO.out hb) (i := i) (by rw [hkl]; exact hlt)
      have hli : (keysR L)[i]'(by rw [hkl]; exact hlt) = L[i].1 := by simp [keysR]
      rw [hli] at c0
      have hm := List.getElem_mem hlt
      have hge : gotE L L[i].1 = L[i].2 := by unfold gotE; rw [HS.out.get hm]; rfl
      have HG := bookGet_any bb mo L s L[i].1 wr (HB.out.below hw1r) (by have := HK.out _ hm; simp only [maxLen]; omega)
      rw [hge] at HG
      have hps : (L.take (i + 1)).map (fun x => x.2.pl) = (L.take i).map (fun x => x.2.pl) ++ [L[i].2.pl] := by rw [List.take_succ_eq_append_getElem hlt, List.map_append]; rfl
      subst hA
      obtain ⟨x, hx⟩ : ∃ x, x = L[i] := ⟨_, rfl⟩
      rw [← hx] at c0 hps HG
      simp only [stv] at c0
      have HPS := Lib.hid hps
      have hMe := Lib.hid hMi
      replace HG := Lib.hid HG
      clear hps hge hx hli hm hkl
      go_wp2_with fail
      refine HG.out.mono ?_
      rintro e w2 ⟨q, v, k, A2, c2, l2, rfl, he, ho2, hb2⟩
      obtain ⟨y, hy⟩ : ∃ y : EV, y = ⟨q, v, k, ⟨A2, c2, l2⟩⟩ := ⟨_, rfl⟩
      have hw2 := hb.trans (hb2.mono hb.size)
      have ho3 : OwB w2 w1.heap.size (.slice y.x.A y.x.l.length y.x.c) y.x.l := by
        rw [hy]
        exact own_base ho2 (fun g hg => Nat.le_trans hb.size (ho2.lt g hg).1)
      have hpy : y.pl = x.2.pl := by
        obtain ⟨e1, e2, e3, e4⟩ := he.out
        rw [hy]
        unfold EV.pl
        dsimp only
        rw [e1, e2, e3, e4]
      have hba : Below w1.heap.size w1 (w2.alloc (.cells #[.string q, .int .u64 v, .int .i64 k, .slice A2 l2.length c2] 59)) := hw2.alloc hw2.size _
      have hal : Below w2.heap.size w2 (w2.alloc (.cells #[.string q, .int .u64 v, .int .i64 k, .slice A2 l2.length c2] 59)) := (Below.refl _ w2).alloc (Nat.le_refl _) _
      have hO3 := Lib.hid ((hO.below hb2).below hal)
      have ho4 := Lib.hid (own_below ho3 hal)
      have ra : Hid (Rd (w2.alloc (.cells #[.string q, .int .u64 v, .int .i64 k, .slice A2 l2.length c2] 59)) (fun _ => True) 4 (some ⟨w2.heap.size, 0, none⟩) 1 (EV.cells y)) := (Rd.lit (w := w2) (t := 59) (size := 4) (n := 1) (xs := EV.cells y) (by rw [hy]; rfl) rfl rfl).mono (fun _ _ _ => trivial)
      have HN : Hid ((M ++ [y]).map EV.pl = (L.take (i + 1)).map fun x => x.2.pl) := by
        show _ = _
        rw [List.map_append, List.map_cons, List.map_nil, hpy, HPS.out, hM.out]
      have hlb := Lib.hid (show M.length + 1 ≤ 1099511627776 by omega)
      clear hO ho2 ho3 hal hb2 he hpy hy HPS HG hM hb c0 hMi
      go_wp2_with (at_builtin; refine wpList_append_entry rfl (.tmp 12) (.tmp 16) (t := 45) rfl rfl rfl hO3.out.row rfl ra.out hlb.out hba.size ?_; intro A5 c5 w5 ho5 hb5 hk5)
      have hb6 := hba.trans hb5
      have hO5 := hO3.out.push ho4.out ho5 hb5 hk5
      have hl5 : (M ++ [y]).length = i + 1 := by rw [List.length_append, hMe.out]; rfl
      go_roundw
      case rel => exact ⟨i + 1, A5, c5, M ++ [y], hlt, by go_num, by simp, HN, hl5, hO5, hb6⟩
      case measure => simp [intOf]; omega
    · have e : i = L.length := by omega
      subst e
      have HN : Hid (M.map EV.pl = plainB L) := by
        show _ = _
        rw [hM.out, List.take_length, HPL.out]
      clear hM hMi
      go_wp2_with fail
      go_ret
      exact ⟨A, c, M, rfl, HN.out, hO.base hb1.size, hw1r⟩
end Go.Proofs.YtdnljmncdbcgeaaGreat

/- tenderref22: the document's book as a value; Get. -/
namespace Go.Proofs.YtdnljmncdbcgeaaGreat
open Go.RowKit

/-- a row of entries, to be read -/
structure EsR (w : World) (A : Option Addr) (M : List EV) : Prop where
  rd : Rd w (fun _ => True) 4 A M.length (M.flatMap EV.cells)
  ok : ∀ x ∈ M, x.x.ok w (fun _ => True)
  len : M.length ≤ 1000000
theorem EsR.below {w w' : World} {A : Option Addr} {M : List EV} (h : EsR w A M) (k : Below w.heap.size w w') : EsR w' A M := ⟨h.rd.below k, fun x hx => (h.ok x hx).below k, h.len⟩
theorem ev_cells_len (x : EV) : x.cells.length = 4 := rfl
theorem EsR.at_ {w : World} {A : Option Addr} {M : List EV} {i : Nat} (h : EsR w A M) (hi : i < M.length) :
    ∃ b off, A = some ⟨b, off, none⟩ ∧ b < w.heap.size ∧ w.cell? ⟨b, off + i * 4, none⟩ = some (.string M[i].p) ∧ w.cell? ⟨b, off + i * 4 + 1, none⟩ = some (.int .u64 M[i].v) ∧ w.cell? ⟨b, off + i * 4 + 2, none⟩ = some (.int .i64 M[i].k) ∧ w.cell? ⟨b, off + i * 4 + 3, none⟩ = some (.slice M[i].x.A M[i].x.l.length M[i].x.c) := by
  obtain ⟨b, off, hA, _, hb, hc⟩ := h.rd.2 (by omega)
  have hg : ∀ j, j < 4 → (M.flatMap EV.cells)[i * 4 + j]? = (EV.cells M[i])[j]? := fun j hj => flat_get (k := 4) ev_cells_len M i j hi hj
  refine ⟨b, off, hA, hb, hc _ _ (hg 0 (by omega)), ?_, ?_, ?_⟩
  · rw [Nat.add_assoc]; exact hc _ _ (hg 1 (by omega))
  · rw [Nat.add_assoc]; exact hc _ _ (hg 2 (by omega))
  · rw [Nat.add_assoc]; exact hc _ _ (hg 3 (by omega))
/-- the first entry of a path, or one of nothing -/
def findE (p : ByteArray) : List EV → EV
  | [] => ⟨p, 0, 0, ⟨none, 0, []⟩⟩
  | x :: l => if x.p = p then x else findE p l
theorem findE_cons (p : ByteArray) (x : EV) (l : List EV) : findE p (x :: l) = if x.p = p then x else findE p l := rfl

set_option maxRecDepth 100000 in
set_option maxHeartbeats 1000000 in
theorem refGet22_any (A : Option Addr) (c : Nat) (M : List EV) (s : Int) (p : ByteArray) (w : World) (h : EsR w A M) :
    Calls Tryz.prog 90 #[.agg #[.int .u64 s, .slice A M.length c], .string p] w fun e w' => (∃ o : EV, e = .returned (.agg #[.string o.p, .int .u64 o.v, .int .i64 o.k, .slice o.x.A o.x.l.length o.x.c]) ∧ Hid (o = findE p M)) ∧ Below w.heap.size w w' := by
  have hw2 : Below w.heap.size w ((w.alloc (.cells #[.int .u64 s, .slice A M.length c] 50)).alloc (.cells #[.string ⟨#[]⟩, .int .u64 0, .int .i64 0, .slice none 0 0] 59)) := ((Below.refl _ _).alloc (Nat.le_refl _) _).alloc (by simp) _
  have x0 : Blk ((w.alloc (.cells #[.int .u64 s, .slice A M.length c] 50)).alloc (.cells #[.string ⟨#[]⟩, .int .u64 0, .int .i64 0, .slice none 0 0] 59)) w.heap.size 50 #[.int .u64 s, .slice A M.length c] := (Blk.new w 50 #[.int .u64 s, .slice A M.length c]).below ((Below.refl _ _).alloc (Nat.le_refl _) _)
  have x1 : Blk ((w.alloc (.cells #[.int .u64 s, .slice A M.length c] 50)).alloc (.cells #[.string ⟨#[]⟩, .int .u64 0, .int .i64 0, .slice none 0 0] 59)) (w.heap.size + 1) 59 #[.string ⟨#[]⟩, .int .u64 0, .int .i64 0, .slice none 0 0] := by
    have := Blk.new (w.alloc (.cells #[.int .u64 s, .slice A M.length c] 50)) 59 #[.string ⟨#[]⟩, .int .u64 0, .int .i64 0, .slice none 0 0]
    rwa [show (w.alloc (.cells #[.int .u64 s, .slice A M.length c] 50)).heap.size = w.heap.size + 1 by simp] at this
  have HF := Lib.hid (h.below hw2)
  have hlen := h.len
  clear h
  go_enter Tryz.func90, Tryz.ntmps90
  go_upto_region 1 with (fail)
  generalize ((w.alloc (.cells #[.int .u64 s, .slice A M.length c] 50)).alloc (.cells #[.string ⟨#[]⟩, .int .u64 0, .int .i64 0, .slice none 0 0] 59)) = w2 at *
  have b1 := x0.cell 1
  simp only [List.getElem?_toArray, List.getElem?_cons_zero, List.getElem?_cons_succ] at b1
  go_wp2_with fail
  go_loopw [5] (fun iv wr => ∃ i : Nat, i ≤ M.length ∧ iv = .int .i64 (i : Int) ∧ Hid (findE p M = findE p (M.drop i)) ∧ wr = w2) (fun iv _ => M.length - (intOf iv).toNat)
  case atStart => exact ⟨0, Nat.zero_le _, rfl, rfl, rfl⟩
  case round =>
    obtain ⟨i, hi, rfl, hg, rfl⟩ := hrel
    by_cases hlt : i < M.length
    · obtain ⟨b, off, hA, hbb, c0, c1, c2, c3⟩ := HF.out.at_ hlt
      have hd : M.drop i = M[i] :: M.drop (i + 1) := List.drop_eq_getElem_cons hlt
      have hg2 := hg.out
      rw [hd, findE_cons] at hg2
      generalize M[i] = o at *
      subst hA
      by_cases he : o.p = p
      · rw [if_pos he] at hg2
        have HG := Lib.hid (show o = findE p M from hg2.symm)
        have heq := eq_yes he
        have r0 := x1.cell 0
        have r1 := x1.cell 1
        have r2 := x1.cell 2
        have r3 := x1.cell 3
        simp only [List.getElem?_toArray, List.getElem?_cons_zero, List.getElem?_cons_succ] at r0 r1 r2 r3
        have fr := fun o => x1.frozen o
        clear hd hg2 hg he
        go_wp2_with fail
        have kR : Fr (fun x => x = w.heap.size + 1) wr ((((wr.setCell ⟨w.heap.size + 1, 0, none⟩ (.string o.p)).setCell ⟨w.heap.size + 1, 1, none⟩ (.int .u64 o.v)).setCell ⟨w.heap.size + 1, 2, none⟩ (.int .i64 o.k)).setCell ⟨w.heap.size + 1, 3, none⟩ (.slice o.x.A o.x.l.length o.x.c)) := (((((Fr.refl (fun x => x = w.heap.size + 1) wr).setAt (w.heap.size + 1) _ rfl _).setAt (w.heap.size + 1) _ rfl _).setAt (w.heap.size + 1) _ rfl _).setAt (w.heap.size + 1) _ rfl _)
        have yR := ((((x1.set_ 0 (.string o.p)).set_ 1 (.int .u64 o.v)).set_ 2 (.int .i64 o.k)).set_ 3 (.slice o.x.A o.x.l.length o.x.c))
        simp only [List.setIfInBounds_toArray, List.set_cons_zero, List.set_cons_succ] at yR
        have hwR : Below w.heap.size w ((((wr.setCell ⟨w.heap.size + 1, 0, none⟩ (.string o.p)).setCell ⟨w.heap.size + 1, 1, none⟩ (.int .u64 o.v)).setCell ⟨w.heap.size + 1, 2, none⟩ (.int .i64 o.k)).setCell ⟨w.heap.size + 1, 3, none⟩ (.slice o.x.A o.x.l.length o.x.c)) := hw2.trans (kR.below (B := w.heap.size) hw2.size (fun k hk e => by omega))
        generalize ((((wr.setCell ⟨w.heap.size + 1, 0, none⟩ (.string o.p)).setCell ⟨w.heap.size + 1, 1, none⟩ (.int .u64 o.v)).setCell ⟨w.heap.size + 1, 2, none⟩ (.int .i64 o.k)).setCell ⟨w.heap.size + 1, 3, none⟩ (.slice o.x.A o.x.l.length o.x.c)) = wR at *
        have s0 := yR.cell 0
        have s1 := yR.cell 1
        have s2 := yR.cell 2
        have s3 := yR.cell 3
        simp only [List.getElem?_toArray, List.getElem?_cons_zero, List.getElem?_cons_succ] at s0 s1 s2 s3
        refine bodyPost_ret (v := .agg #[.string o.p, .int .u64 o.v, .int .i64 o.k, .slice o.x.A o.x.l.length o.x.c]) (by simp [results, Tryz.results90, go_sem, s0, s1, s2, s3]) rfl ?_
        exact ⟨⟨o, rfl, HG.out⟩, hwR⟩
      · rw [if_neg he] at hg2
        have HG : Hid (findE p M = findE p (M.drop (i + 1))) := Lib.hid hg2
        have heq := eq_no he
        clear hd hg2 hg he c1 c2 c3
        go_wp2_with fail
        go_roundw
        case rel => exact ⟨i + 1, hlt, by go_num, HG.out, trivial⟩
        case measure => simp [intOf]; omega
    · have e : i = M.length := by omega
      subst e
      have HG : Hid (⟨p, 0, 0, ⟨none, 0, []⟩⟩ = findE p M) := Lib.hid (by rw [hg.out, List.drop_length]; rfl)
      have r0 := x1.cell 0
      have r1 := x1.cell 1
      have r2 := x1.cell 2
      have r3 := x1.cell 3
      simp only [List.getElem?_toArray, List.getElem?_cons_zero, List.getElem?_cons_succ] at r0 r1 r2 r3
      have fr := fun o => x1.frozen o
      clear hg
      go_wp2_with fail
      have kR : Fr (fun x => x = w.heap.size + 1) wr ((((wr.setCell ⟨w.heap.size + 1, 0, none⟩ (.string p)).setCell ⟨w.heap.size + 1, 1, none⟩ (.int .u64 0)).setCell ⟨w.heap.size + 1, 2, none⟩ (.int .i64 0)).setCell ⟨w.heap.size + 1, 3, none⟩ (.slice none 0 0)) := (((((Fr.refl (fun x => x = w.heap.size + 1) wr).setAt (w.heap.size + 1) _ rfl _).setAt (w.heap.size + 1) _ rfl _).setAt (w.heap.size + 1) _ rfl _).setAt (w.heap.size + 1) _ rfl _)
      have yR := ((((x1.set_ 0 (.string p)).set_ 1 (.int .u64 0)).set_ 2 (.int .i64 0)).set_ 3 (.slice none 0 0))
      simp only [List.setIfInBounds_toArray, List.set_cons_zero, List.set_cons_succ] at yR
      have hwR : Below w.heap.size w ((((wr.setCell ⟨w.heap.size + 1, 0, none⟩ (.string p)).setCell ⟨w.heap.size + 1, 1, none⟩ (.int .u64 0)).setCell ⟨w.heap.size + 1, 2, none⟩ (.int .i64 0)).setCell ⟨w.heap.size + 1, 3, none⟩ (.slice none 0 0)) := hw2.trans (kR.below (B := w.heap.size) hw2.size (fun k hk e => by omega))
      generalize ((((wr.setCell ⟨w.heap.size + 1, 0, none⟩ (.string p)).setCell ⟨w.heap.size + 1, 1, none⟩ (.int .u64 0)).setCell ⟨w.heap.size + 1, 2, none⟩ (.int .i64 0)).setCell ⟨w.heap.size + 1, 3, none⟩ (.slice none 0 0)) = wR at *
      have s0 := yR.cell 0
      have s1 := yR.cell 1
      have s2 := yR.cell 2
      have s3 := yR.cell 3
      simp only [List.getElem?_toArray, List.getElem?_cons_zero, List.getElem?_cons_succ] at s0 s1 s2 s3
      refine bodyPost_ret (v := .agg #[.string p, .int .u64 0, .int .i64 0, .slice none 0 0]) (by simp [results, Tryz.results90, go_sem, s0, s1, s2, s3]) rfl ?_
      exact ⟨⟨_, rfl, HG.out⟩, hwR⟩

end Go.Proofs.YtdnljmncdbcgeaaGreat
