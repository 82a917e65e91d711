/- book.Book: spare. -/
import Derived.Test.YtkeledbgmpienaaGreatA09
import Derived.Shelf.SlIter.Nil

namespace Go.Proofs.YtkeledbgmpienaaGreat
open Go.RowKit Go.Maps

/-- the least entry of nothing among those seen -/
def BestL (L : List (List UInt8 × EV)) (seen : List (List UInt8)) : Option (List UInt8 × EV) → Prop
  | none => ∀ y ∈ L, y.1 ∈ seen → y.2.k ≠ 0
  | some x => x ∈ L ∧ x.2.k = 0 ∧ x.1 ∈ seen ∧ ∀ y ∈ L, y.1 ∈ seen → y.2.k = 0 → y = x ∨ aheadB (x.1, x.2.ep) (y.1, y.2.ep)
theorem sort_one {α : Type} {L : List (List UInt8 × α)} (h : SortR L) {x y : List UInt8 × α} (hx : x ∈ L) (hy : y ∈ L) (e : x.1 = y.1) : x = y := by
  have h1 := h.get hx
  have h2 := h.get hy
  rw [e, h2] at h1
  injection h1 with h1
  exact Prod.ext e h1.symm
theorem BestL.start (L : List (List UInt8 × EV)) : BestL L [] none := fun _ _ h => by cases h
theorem BestL.skip {L : List (List UInt8 × EV)} {seen : List (List UInt8)} {o : Option (List UInt8 × EV)} (h : BestL L seen o) (hs : SortR L) {p : List UInt8 × EV} (hp : p ∈ L)
    (hk : p.2.k ≠ 0 ∨ ∃ x, o = some x ∧ aheadB (x.1, x.2.ep) (p.1, p.2.ep)) : BestL L (seen ++ [p.1]) o := by
  rcases o with _ | x
  · intro y hy hs2
    rcases List.mem_append.1 hs2 with h1 | h1
    · exact h y hy h1
    · obtain rfl := sort_one hs hy hp (List.mem_singleton.1 h1)
      rcases hk with hk | ⟨_, e, _⟩
      · exact hk
      · cases e
  · refine ⟨h.1, h.2.1, List.mem_append_left _ h.2.2.1, fun y hy hs2 h0 => ?_⟩
    rcases List.mem_append.1 hs2 with h1 | h1
    · exact h.2.2.2 y hy h1 h0
    · obtain rfl := sort_one hs hy hp (List.mem_singleton.1 h1)
      rcases hk with hk | ⟨z, e, hz⟩
      · exact absurd h0 hk
      · injection e with e
        subst e
        exact .inr hz
theorem BestL.take {L : List (List UInt8 × EV)} {seen : List (List UInt8)} {o : Option (List UInt8 × EV)} (h : BestL L seen o) (hs : SortR L) {p : List UInt8 × EV} (hp : p ∈ L) (h0 : p.2.k = 0)
    (hk : ∀ x, o = some x → aheadB (p.1, p.2.ep) (x.1, x.2.ep)) : BestL L (seen ++ [p.1]) (some p) := by
  refine ⟨hp, h0, List.mem_append_right _ (by simp), fun y hy hs2 hy0 => ?_⟩
  rcases List.mem_append.1 hs2 with h1 | h1
  · rcases o with _ | x
    · exact absurd hy0 (h y hy h1)
    · rcases h.2.2.2 y hy h1 hy0 with rfl | h2
      · exact .inr (hk _ rfl)
      · exact .inr (aheadB_trans (hk _ rfl) h2)
  · exact .inl (sort_one hs hy hp (List.mem_singleton.1 h1))
theorem BestL.all {L : List (List UInt8 × EV)} {seen : List (List UInt8)} {o : Option (List UInt8 × EV)} (h : BestL L seen o) (hs : SortR L) (hall : ∀ k, k ∈ seen ↔ k ∈ keysR L) : spareB (plainB L) = o.map fun x => (x.1, x.2.ep) := by
  have hin : ∀ y ∈ L, y.1 ∈ seen := fun y hy => (hall _).2 (List.mem_map.2 ⟨y, hy, rfl⟩)
  rcases o with _ | x
  · rcases hsp : spareB (plainB L) with _ | z
    · rfl
    · obtain ⟨hz, hz0⟩ := spareB_mem hsp
      obtain ⟨y, hy, rfl⟩ := List.mem_map.1 hz
      exact absurd hz0 (h y hy (hin y hy))
  · refine spareB_of ((sort_map EV.ep).2 hs) (List.mem_map.2 ⟨x, h.1, rfl⟩) h.2.1 fun z hz hz0 => ?_
    obtain ⟨y, hy, rfl⟩ := List.mem_map.1 hz
    rcases h.2.2.2 y hy (hin y hy) hz0 with rfl | h2
    · exact .inl rfl
    · exact .inr h2
end Go.Proofs.YtkeledbgmpienaaGreat

/- book.Book: Put. -/
namespace Go.Proofs.YtkeledbgmpienaaGreat
open Go.RowKit Go.Maps

theorem BookOk.without {T : List (List UInt8 × EP)} (h : BookOk T) (p : List UInt8) : BookOk (withoutR T p) := ⟨h.sort.without p, fun x hx => h.good x (List.mem_filter.1 hx).1, Nat.le_trans (without_len_le T p) h.len⟩
end Go.Proofs.YtkeledbgmpienaaGreat

/- book.Book's paths, in order. -/
namespace Go.Proofs.YtkeledbgmpienaaGreat
open Go.RowKit Go.Maps Go.Sort Go.Shelf

/-- a map or none, as a row -/
def MapO (w : World) (mo : Option Nat) (L : List (List UInt8 × Value)) : Prop := (mo = none ∧ L = []) ∨ ∃ mb, mo = some mb ∧ MapAt w Tryz.prog 9 mb L
theorem MapO.sort {w : World} {mo : Option Nat} {L : List (List UInt8 × Value)} (h : MapO w mo L) : SortR L := by
  rcases h with ⟨_, rfl⟩ | ⟨mb, _, hm⟩
  · exact sortR_nil
  · exact hm.sort
end Go.Proofs.YtkeledbgmpienaaGreat

/- Rows of entries of the call's own, bytes and all; append of one. -/
namespace Go.Proofs.YtkeledbgmpienaaGreat
open Go.RowKit

def OwE (w : World) (base : Nat) (A : Option Addr) (c : Nat) (M : List EV) : Prop := w.ownsRow base 41 4 (.slice A M.length c) M.length (M.flatMap EV.cells)
theorem entry_info : (Tryz.prog.info? 41).map (fun i => (i.zero, i.size, i.bytes)) = some (some (.agg #[.string ⟨#[]⟩, .int .u64 0, .int .i64 0, .slice none 0 0]), 4, 56) := by kernel_rfl
theorem entry_one (L : List EV) : ∀ u ∈ L.flatMap EV.cells, u.oneCell' = true := by
  intro u hu
  obtain ⟨x, _, hx⟩ := List.mem_flatMap.1 hu
  simp only [EV.cells, List.mem_cons, List.not_mem_nil, or_false] at hx
  rcases hx with rfl | rfl | rfl | rfl <;> rfl
/-- entries, each of the call's own -/
structure EsOwn (w : World) (base : Nat) (A : Option Addr) (c : Nat) (M : List EV) : Prop where
  row : OwE w base A c M
  byt : ∀ x ∈ M, OwB w base (.slice x.x.A x.x.l.length x.x.c) x.x.l
theorem EsOwn.nil (w : World) (base : Nat) : EsOwn w base none 0 [] := ⟨World.ownsRow_nil _ _ _ _, by simp⟩
theorem EsOwn.below {w w' : World} {base : Nat} {A : Option Addr} {c : Nat} {M : List EV} (h : EsOwn w base A c M) (k : Below w.heap.size w w') : EsOwn w' base A c M := ⟨own_below h.row k, fun x hx => own_below (h.byt x hx) k⟩
theorem EsOwn.base {w : World} {base base' : Nat} {A : Option Addr} {c : Nat} {M : List EV} (h : EsOwn w base A c M) (hb : base' ≤ base) : EsOwn w base' A c M :=
  ⟨own_base h.row (fun g hg => Nat.le_trans hb (h.row.lt g hg).1), fun x hx => own_base (h.byt x hx) (fun g hg => Nat.le_trans hb ((h.byt x hx).lt g hg).1)⟩
/-- append of one entry -/
theorem wpList_append_entry {w : World} {ops : Array Oper} {rest : List Oper} {o : Oper} {a : Act} {Q : Exit → Act → World → Prop} (hgd : o.guard = none) (s x : Operand) {t : TypeId} (hu : Tryz.prog.underlying t = some (.slice 41))
    (ho : o.op = .call { callee := .builtin .append, args := #[s, x], argTypes := #[t, t] })
    {base : Nat} {A : Option Addr} {c : Nat} {L : List EV} {y : EV} {g : Nat} (hs : a.eval s = .slice A L.length c) (hown : OwE w base A c L) (hx : a.eval x = .slice (some ⟨g, 0, none⟩) 1 1) (hr : Rd w (fun _ => True) 4 (some ⟨g, 0, none⟩) 1 (EV.cells y))
    (hsum : L.length + 1 ≤ 1099511627776) (hbase : base ≤ w.heap.size)
    (h : ∀ (A' : Option Addr) (c' : Nat) (w' : World), OwE w' base A' c' (L ++ [y]) → Below base w w' → (∀ k, k < w.heap.size → (Value.slice A L.length c).ownBlock ≠ some k → w'.heap[k]? = w.heap[k]?) → wpList Tryz.prog ops Q rest (a.put o.dst (.slice A' (L.length + 1) c')) w') : wpList Tryz.prog ops Q (o :: rest) a w := by
  obtain ⟨i0, hi0, hz0, hz1, hz2⟩ := info_parts entry_info
  refine wpList_append_any w hgd s x _ ho base 41 i0 _ 4 56 hu hi0 hz0 hz1 hz2 rfl (by omega) (.slice A L.length c) L.length (L.flatMap EV.cells) hs hown _ _ 1 1 (EV.cells y) hx hr (fun u hu => entry_one [y] u (by simpa using hu)) (by simp only [maxLen]; omega) (by omega) hbase ?_
  intro v' w' h1 h2 h3
  obtain ⟨A', c', rfl, _⟩ := own_form h1
  refine h A' c' w' ?_ (grown_below h2 hbase (fun g e => (hown.lt g e).1)) (fun k hk hne => h2.block k hk (fun e => hne e.symm))
  unfold OwE
  rw [List.length_append, List.flatMap_append, List.flatMap_cons, List.flatMap_nil, List.append_nil]
  exact h1
end Go.Proofs.YtkeledbgmpienaaGreat

/- book.Book: Entries. -/
namespace Go.Proofs.YtkeledbgmpienaaGreat
open Go.RowKit

/-- an entry, plainly -/
def EV.pl (o : EV) : List UInt8 × Int × Int × List UInt8 := (tl o.p, o.v, o.k, o.x.l)
theorem txt_atE {w : World} {base : Nat} {A : Option Addr} {c : Nat} {l : List (List UInt8)} {n : Nat} (hn : n = l.length) (h : w.ownsRow base 9 1 (.slice A n c) n (l.map stv)) {i : Nat} (hi : i < l.length) :
    ∃ b off, A = some ⟨b, off, none⟩ ∧ b < w.heap.size ∧ w.cell? ⟨b, off + i, none⟩ = some (stv l[i]) := by
  have hr : Rd w (fun _ => True) 1 A n (l.map stv) := Rd.of_own h (fun _ _ _ => trivial)
  obtain ⟨b, off, hA, _, hb, hc⟩ := hr.2 (by omega)
  exact ⟨b, off, hA, hb, hc i _ (by rw [List.getElem?_map, List.getElem?_eq_getElem hi]; rfl)⟩
end Go.Proofs.YtkeledbgmpienaaGreat

/- tenderref22: the document's book as a value; Get. -/
namespace Go.Proofs.YtkeledbgmpienaaGreat
open Go.RowKit

/-- a row of entries, to be read -/
structure EsR (w : World) (A : Option Addr) (M : List EV) : Prop where
  rd : Rd w (fun _ => True) 4 A M.length (M.flatMap EV.cells)
  ok : ∀ x ∈ M, x.x.ok w (fun _ => True)
  len : M.length ≤ 1000000
theorem EsR.below {w w' : World} {A : Option Addr} {M : List EV} (h : EsR w A M) (k : Below w.heap.size w w') : EsR w' A M := ⟨h.rd.below k, fun x hx => (h.ok x hx).below k, h.len⟩
theorem ev_cells_len (x : EV) : x.cells.length = 4 := rfl
theorem EsR.at_ {w : World} {A : Option Addr} {M : List EV} {i : Nat} (h : EsR w A M) (hi : i < M.length) :
    ∃ b off, A = some ⟨b, off, none⟩ ∧ b < w.heap.size ∧ w.cell? ⟨b, off + i * 4, none⟩ = some (.string M[i].p) ∧ w.cell? ⟨b, off + i * 4 + 1, none⟩ = some (.int .u64 M[i].v) ∧ w.cell? ⟨b, off + i * 4 + 2, none⟩ = some (.int .i64 M[i].k) ∧ w.cell? ⟨b, off + i * 4 + 3, none⟩ = some (.slice M[i].x.A M[i].x.l.length M[i].x.c) := by
  obtain ⟨b, off, hA, _, hb, hc⟩ := h.rd.2 (by omega)
  have hg : ∀ j, j < 4 → (M.flatMap EV.cells)[i * 4 + j]? = (EV.cells M[i])[j]? := fun j hj => flat_get (k := 4) ev_cells_len M i j hi hj
  refine ⟨b, off, hA, hb, hc _ _ (hg 0 (by omega)), ?_, ?_, ?_⟩
  · rw [Nat.add_assoc]; exact hc _ _ (hg 1 (by omega))
  · rw [Nat.add_assoc]; exact hc _ _ (hg 2 (by omega))
  · rw [Nat.add_assoc]; exact hc _ _ (hg 3 (by omega))
/-- the first entry of a path, or one of nothing -/
def findE (p : ByteArray) : List EV → EV
  | [] => ⟨p, 0, 0, ⟨none, 0, []⟩⟩
  | x :: l => if x.p = p then x else findE p l
theorem findE_cons (p : ByteArray) (x : EV) (l : List EV) : findE p (x :: l) = if x.p = p then x else findE p l := rfl

set_option maxRecDepth 100000 in
set_option maxHeartbeats 1000000 in
theorem refGet22_any (A : Option Addr) (c : Nat) (M : List EV) (s : Int) (p : ByteArray) (w : World) (h : EsR w A M) :
    Calls Tryz.prog 21 #[.agg #[.int .u64 s, .slice A M.length c], .string p] w fun e w' => (∃ o : EV, e = .returned (.agg #[.string o.p, .int .u64 o.v, .int .i64 o.k, .slice o.x.A o.x.l.length o.x.c]) ∧ Hid (o = findE p M)) ∧ Below w.heap.size w w' := by
  have hw2 : Below w.heap.size w ((w.alloc (.cells #[.int .u64 s, .slice A M.length c] 32)).alloc (.cells #[.string ⟨#[]⟩, .int .u64 0, .int .i64 0, .slice none 0 0] 41)) := ((Below.refl _ _).alloc (Nat.le_refl _) _).alloc (by simp) _
  have x0 : Blk ((w.alloc (.cells #[.int .u64 s, .slice A M.length c] 32)).alloc (.cells #[.string ⟨#[]⟩, .int .u64 0, .int .i64 0, .slice none 0 0] 41)) w.heap.size 32 #[.int .u64 s, .slice A M.length c] := (Blk.new w 32 #[.int .u64 s, .slice A M.length c]).below ((Below.refl _ _).alloc (Nat.le_refl _) _)
  have x1 : Blk ((w.alloc (.cells #[.int .u64 s, .slice A M.length c] 32)).alloc (.cells #[.string ⟨#[]⟩, .int .u64 0, .int .i64 0, .slice none 0 0] 41)) (w.heap.size + 1) 41 #[.string ⟨#[]⟩, .int .u64 0, .int .i64 0, .slice none 0 0] := by
    have := Blk.new (w.alloc (.cells #[.int .u64 s, .slice A M.length c] 32)) 41 #[.string ⟨#[]⟩, .int .u64 0, .int .i64 0, .slice none 0 0]
    rwa [show (w.alloc (.cells #[.int .u64 s, .slice A M.length c] 32)).heap.size = w.heap.size + 1 by simp] at this
  have HF := Lib.hid (h.below hw2)
  have hlen := h.len
  clear h
  go_enter Tryz.func21, Tryz.ntmps21
  go_upto_region 1 with (fail)
  generalize ((w.alloc (.cells #[.int .u64 s, .slice A M.length c] 32)).alloc (.cells #[.string ⟨#[]⟩, .int .u64 0, .int .i64 0, .slice none 0 0] 41)) = w2 at *
  have b1 := x0.cell 1
  simp only [List.getElem?_toArray, List.getElem?_cons_zero, List.getElem?_cons_succ] at b1
  go_wp2_with fail
  go_loopw [5] (fun iv wr => ∃ i : Nat, i ≤ M.length ∧ iv = .int .i64 (i : Int) ∧ Hid (findE p M = findE p (M.drop i)) ∧ wr = w2) (fun iv _ => M.length - (intOf iv).toNat)
  case atStart => exact ⟨0, Nat.zero_le _, rfl, rfl, rfl⟩
  case round =>
    obtain ⟨i, hi, rfl, hg, rfl⟩ := hrel
    by_cases hlt : i < M.length
    · obtain ⟨b, off, hA, hbb, c0, c1, c2, c3⟩ := HF.out.at_ hlt
      have hd : M.drop i = M[i] :: M.drop (i + 1) := List.drop_eq_getElem_cons hlt
      have hg2 := hg.out
      rw [hd, findE_cons] at hg2
      generalize M[i] = o at *
      subst hA
      by_cases he : o.p = p
      · rw [if_pos he] at hg2
        have HG := Lib.hid (show o = findE p M from hg2.symm)
        have heq := eq_yes he
        have r0 := x1.cell 0
        have r1 := x1.cell 1
        have r2 := x1.cell 2
        have r3 := x1.cell 3
        simp only [List.getElem?_toArray, List.getElem?_cons_zero, List.getElem?_cons_succ] at r0 r1 r2 r3
        have fr := fun o => x1.frozen o
        clear hd hg2 hg he
        go_wp2_with fail
        have kR : Fr (fun x => x = w.heap.size + 1) wr ((((wr.setCell ⟨w.heap.size + 1, 0, none⟩ (.string o.p)).setCell ⟨w.heap.size + 1, 1, none⟩ (.int .u64 o.v)).setCell ⟨w.heap.size + 1, 2, none⟩ (.int .i64 o.k)).setCell ⟨w.heap.size + 1, 3, none⟩ (.slice o.x.A o.x.l.length o.x.c)) := (((((Fr.refl (fun x => x = w.heap.size + 1) wr).setAt (w.heap.size + 1) _ rfl _).setAt (w.heap.size + 1) _ rfl _).setAt (w.heap.size + 1) _ rfl _).setAt (w.heap.size + 1) _ rfl _)
        have yR := ((((x1.set_ 0 (.string o.p)).set_ 1 (.int .u64 o.v)).set_ 2 (.int .i64 o.k)).set_ 3 (.slice o.x.A o.x.l.length o.x.c))
        simp only [List.setIfInBounds_toArray, List.set_cons_zero, List.set_cons_succ] at yR
        have hwR : Below w.heap.size w ((((wr.setCell ⟨w.heap.size + 1, 0, none⟩ (.string o.p)).setCell ⟨w.heap.size + 1, 1, none⟩ (.int .u64 o.v)).setCell ⟨w.heap.size + 1, 2, none⟩ (.int .i64 o.k)).setCell ⟨w.heap.size + 1, 3, none⟩ (.slice o.x.A o.x.l.length o.x.c)) := hw2.trans (kR.below (B := w.heap.size) hw2.size (fun k hk e => by omega))
        generalize ((((wr.setCell ⟨w.heap.size + 1, 0, none⟩ (.string o.p)).setCell ⟨w.heap.size + 1, 1, none⟩ (.int .u64 o.v)).setCell ⟨w.heap.size + 1, 2, none⟩ (.int .i64 o.k)).setCell ⟨w.heap.size + 1, 3, none⟩ (.slice o.x.A o.x.l.length o.x.c)) = wR at *
        have s0 := yR.cell 0
        have s1 := yR.cell 1
        have s2 := yR.cell 2
        have s3 := yR.cell 3
        simp only [List.getElem?_toArray, List.getElem?_cons_zero, List.getElem?_cons_succ] at s0 s1 s2 s3
        refine bodyPost_ret (v := .agg #[.string o.p, .int .u64 o.v, .int .i64 o.k, .slice o.x.A o.x.l.length o.x.c]) (by simp [results, Tryz.results21, go_sem, s0, s1, s2, s3]) rfl ?_
        exact ⟨⟨o, rfl, HG.out⟩, hwR⟩
      · rw [if_neg he] at hg2
        have HG : Hid (findE p M = findE p (M.drop (i + 1))) := Lib.hid hg2
        have heq := eq_no he
        clear hd hg2 hg he c1 c2 c3
        go_wp2_with fail
        go_roundw
        case rel => exact ⟨i + 1, hlt, by go_num, HG.out, trivial⟩
        case measure => simp [intOf]; omega
    · have e : i = M.length := by omega
      subst e
      have HG : Hid (⟨p, 0, 0, ⟨none, 0, []⟩⟩ = findE p M) := Lib.hid (by rw [hg.out, List.drop_length]; rfl)
      have r0 := x1.cell 0
      have r1 := x1.cell 1
      have r2 := x1.cell 2
      have r3 := x1.cell 3
      simp only [List.getElem?_toArray, List.getElem?_cons_zero, List.getElem?_cons_succ] at r0 r1 r2 r3
      have fr := fun o => x1.frozen o
      clear hg
      go_wp2_with fail
      have kR : Fr (fun x => x = w.heap.size + 1) wr ((((wr.setCell ⟨w.heap.size + 1, 0, none⟩ (.string p)).setCell ⟨w.heap.size + 1, 1, none⟩ (.int .u64 0)).setCell ⟨w.heap.size + 1, 2, none⟩ (.int .i64 0)).setCell ⟨w.heap.size + 1, 3, none⟩ (.slice none 0 0)) := (((((Fr.refl (fun x => x = w.heap.size + 1) wr).setAt (w.heap.size + 1) _ rfl _).setAt (w.heap.size + 1) _ rfl _).setAt (w.heap.size + 1) _ rfl _).setAt (w.heap.size + 1) _ rfl _)
      have yR := ((((x1.set_ 0 (.string p)).set_ 1 (.int .u64 0)).set_ 2 (.int .i64 0)).set_ 3 (.slice none 0 0))
      simp only [List.setIfInBounds_toArray, List.set_cons_zero, List.set_cons_succ] at yR
      have hwR : Below w.heap.size w ((((wr.setCell ⟨w.heap.size + 1, 0, none⟩ (.string p)).setCell ⟨w.heap.size + 1, 1, none⟩ (.int .u64 0)).setCell ⟨w.heap.size + 1, 2, none⟩ (.int .i64 0)).setCell ⟨w.heap.size + 1, 3, none⟩ (.slice none 0 0)) := hw2.trans (kR.below (B := w.heap.size) hw2.size (fun k hk e => by omega))
      generalize ((((wr.setCell ⟨w.heap.size + 1, 0, none⟩ (.string p)).setCell ⟨w.heap.size + 1, 1, none⟩ (.int .u64 0)).setCell ⟨w.heap.size + 1, 2, none⟩ (.int .i64 0)).setCell ⟨w.heap.size + 1, 3, none⟩ (.slice none 0 0)) = wR at *
      have s0 := yR.cell 0
      have s1 := yR.cell 1
      have s2 := yR.cell 2
      have s3 := yR.cell 3
      simp only [List.getElem?_toArray, List.getElem?_cons_zero, List.getElem?_cons_succ] at s0 s1 s2 s3
      refine bodyPost_ret (v := .agg #[.string p, .int .u64 0, .int .i64 0, .slice none 0 0]) (by simp [results, Tryz.results21, go_sem, s0, s1, s2, s3]) rfl ?_
      exact ⟨⟨_, rfl, HG.out⟩, hwR⟩

end Go.Proofs.YtkeledbgmpienaaGreat

/- tenderref22: without, with. -/
namespace Go.Proofs.YtkeledbgmpienaaGreat
open Go.RowKit

/-- rows by their paths -/
def keyE (M : List EV) : List (List UInt8 × EV) := M.map fun y => (tl y.p, y)
theorem val_key (M : List EV) : (keyE M).map (·.2) = M := by simp [keyE, Function.comp_def]
theorem keyE_app (M : List EV) (y : EV) : keyE (M ++ [y]) = keyE M ++ [(tl y.p, y)] := by simp [keyE]
def withoutE (p : ByteArray) (M : List EV) : List EV := M.filter fun x => decide (x.p ≠ p)
def insE (x : EV) (M : List EV) : List EV := (insR (tl x.p) x (keyE M)).map (·.2)
def midE (x : EV) (M : List EV) : List EV := if behR (tl x.p) (keyE M) = true then insE x M else M
theorem insE_none {x : EV} {M : List EV} (h : behR (tl x.p) (keyE M) = false) : insE x M = M ++ [x] := by
  unfold insE
  rw [ins_none _ _ _ h, List.map_append, val_key]
  rfl
theorem insE_here {x y : EV} {M : List EV} (hx : 0 < cmpT (tl y.p) (tl x.p)) (h : behR (tl x.p) (keyE M) = false) : insE x (M ++ [y]) = M ++ [x] ++ [y] := by
  unfold insE
  rw [keyE_app, ins_here _ _ (tl y.p, y) hx _ h, List.map_append, List.map_append, val_key]
  rfl
theorem insE_done {x y : EV} {M : List EV} (h : behR (tl x.p) (keyE M) = true) : insE x (M ++ [y]) = insE x M ++ [y] := by
  unfold insE
  rw [keyE_app, ins_done _ _ (tl y.p, y) _ h, List.map_append]
  rfl
theorem pl_key (M : List EV) : (keyE M).map (fun z => (z.1, z.2.ep)) = M.map EV.pl := by
  unfold keyE
  rw [List.map_map]
  rfl
theorem pl_ins (x : EV) (M : List EV) : (insE x M).map EV.pl = insR (tl x.p) x.ep (M.map EV.pl) := by
  rw [← pl_key M, ins_map EV.ep]
  unfold insE
  rw [List.map_map]
  refine List.map_congr_left fun z hz => ?_
  have : z.1 = tl z.2.p := by
    rcases mem_ins.1 hz with rfl | hz
    · rfl
    · obtain ⟨y, _, rfl⟩ := List.mem_map.1 hz
      rfl
  show z.2.pl = _
  rw [this]
  rfl
theorem pl_without (p : ByteArray) (M : List EV) : (withoutE p M).map EV.pl = withoutR (M.map EV.pl) (tl p) := by
  unfold withoutE withoutR
  rw [List.filter_map]
  congr 1
  refine List.filter_congr fun x _ => ?_
  by_cases h : x.p = p
  · subst h; simp [EV.pl]
  · have : tl x.p ≠ tl p := fun e => h (tl_inj e)
    have h2 : (x.pl.1 == tl p) = false := by simpa [EV.pl] using fun e => h (tl_inj (congrArg Array.toList e))
    simp [h, h2]
theorem find_ver (p : ByteArray) : ∀ M : List EV, (findE p M).v = ((getR (M.map EV.pl) (tl p)).map (·.1)).getD 0
  | [] => rfl
  | x :: M => by
    rw [List.map_cons, getR_cons]
    unfold findE
    by_cases h : x.p = p
    · rw [if_pos h, if_pos (by rw [← h]; rfl)]; rfl
    · rw [if_neg h, if_neg (show ¬ x.pl.1 = tl p from fun e => h (tl_inj e)), find_ver p M]
theorem without_lenE (p : ByteArray) (M : List EV) : (withoutE p M).length ≤ M.length := List.length_filter_le _ _
theorem withoutE_snoc (M : List EV) (p : ByteArray) (i : Nat) (hi : i < M.length) : withoutE p (M.take (i + 1)) = withoutE p (M.take i) ++ if M[i].p = p then [] else [M[i]] := by
  unfold withoutE
  rw [List.take_succ_eq_append_getElem hi, List.filter_append]
  congr 1
  by_cases h : M[i].p = p
  · rw [if_pos h]; simp [h]
  · rw [if_neg h]; simp [h]
/-- entries told: a row of the call's own -/
def EnOwn (w : World) (base : Nat) (e : Ending) (M : List EV) : Prop :=
  ∃ (A : Option Addr) (c : Nat) (l : List EV), e = .returned (.slice A l.length c) ∧ Hid (l = M) ∧ OwE w base A c l
theorem OwE.below {w w' : World} {base : Nat} {A : Option Addr} {c : Nat} {L : List EV} (h : OwE w base A c L) (k : Below w.heap.size w w') : OwE w' base A c L := own_below h k
theorem OwE.esr {w : World} {base : Nat} {A : Option Addr} {c : Nat} {L : List EV} (h : OwE w base A c L) (hok : ∀ x ∈ L, x.x.ok w (fun _ => True)) (hl : L.length ≤ 1000000) : EsR w A L := ⟨Rd.of_own h (fun _ _ _ => trivial), hok, hl⟩

set_option maxRecDepth 100000 in
set_option maxHeartbeats 1000000 in
theorem refWithout22_any (A : Option Addr) (c : Nat) (M : List EV) (p : ByteArray) (w : World) (h : EsR w A M) :
    Calls Tryz.prog 22 #[.slice A M.length c, .string p] w fun e w' => EnOwn w' w.heap.size e (withoutE p M) ∧ Below w.heap.size w w' := by
  have HT := Lib.hid h
  have hlen := h.len
  clear h
  go_enter Tryz.func22, Tryz.ntmps22
  go_wp2_with fail
  go_loopw [5, 6] (fun ov iv wr => ∃ (i : Nat) (A' : Option Addr) (c' : Nat) (l : List EV), i ≤ M.length ∧ iv = .int .i64 (i : Int) ∧ ov = .slice A' l.length c' ∧ Hid (l = withoutE p (M.take i)) ∧ l.length ≤ i ∧ OwE wr w.heap.size A' c' l ∧ Below w.heap.size w wr) (fun _ iv _ => M.length - (intOf iv).toNat)
  case atStart => exact ⟨0, none, 0, [], Nat.zero_le _, rfl, rfl, rfl, Nat.le_refl _, World.ownsRow_nil _ _ _ _, Below.refl _ _⟩
  case round =>
    obtain ⟨i, A', c', l, hi, rfl, rfl, hl, hli, ho, hb⟩ := hrel
    by_cases hlt : i < M.length
    · have hsn := withoutE_snoc M p i hlt
      obtain ⟨b, off, hA, hbb, c0, c1, c2, c3⟩ := (HT.out.below hb).at_ hlt
      subst hA
      obtain ⟨x, hx⟩ : ∃ x, x = M[i] := ⟨_, rfl⟩
      rw [← hx] at c0 c1 c2 c3 hsn
      by_cases he : x.p = p
      · have hne := neq_yes he
        rw [if_pos he, List.append_nil, ← hl.out] at hsn
        have HN := Lib.hid hsn.symm
        clear hsn hl hx he
        go_wp2_with fail
        go_roundw
        case rel => exact ⟨i + 1, A', c', l, hlt, by go_num, rfl, HN, by omega, ho, hb⟩
        case measure => simp [intOf]; omega
      · have hne := neq_no he
        rw [if_neg he, ← hl.out] at hsn
        have HN := Lib.hid hsn.symm
        have hsz := hb.size
        have hba : Below w.heap.size w (wr.alloc (.cells #[.string x.p, .int .u64 x.v, .int .i64 x.k, .slice x.x.A x.x.l.length x.x.c] 41)) := hb.alloc hsz _
        have ho1 := Lib.hid (ho.below ((Below.refl _ wr).alloc (Nat.le_refl _) (.cells #[.string x.p, .int .u64 x.v, .int .i64 x.k, .slice x.x.A x.x.l.length x.x.c] 41)))
        have hr1 : Hid (Rd (wr.alloc (.cells #[.string x.p, .int .u64 x.v, .int .i64 x.k, .slice x.x.A x.x.l.length x.x.c] 41)) (fun _ => True) 4 (some ⟨wr.heap.size, 0, none⟩) 1 (EV.cells x)) := (Rd.lit (w := wr) (t := 41) (size := 4) (n := 1) (xs := EV.cells x) rfl rfl rfl).mono (fun _ _ _ => trivial)
        clear hsn hl hx he ho
        go_wp2_with (at_builtin; refine wpList_append_entry rfl (.tmp 20) (.tmp 25) (t := 30) rfl rfl rfl ho1.out rfl hr1.out (by omega) (by simp; omega) ?_; intro A5 c5 w5 ho5 hb5 hk5)
        have hb6 := hba.trans hb5
        go_roundw
        case rel => exact ⟨i + 1, A5, c5, l ++ [x], hlt, by go_num, by simp, HN, by simp; omega, ho5, hb6⟩
        case measure => simp [intOf]; omega
    · have e : i = M.length := by omega
      subst e
      have HN : Hid (l = withoutE p M) := by
        show _ = _
        rw [hl.out, List.take_length]
      clear hl
      go_wp2_with fail
      go_ret
      exact ⟨⟨A', c', l, rfl, HN, ho⟩, hb⟩


set_option maxRecDepth 100000 in
set_option maxHeartbeats 2000000 in
theorem refWith22_any (A : Option Addr) (c : Nat) (M : List EV) (v : EV) (w : World) (h : EsR w A M) (hp : v.p.size ≤ 1048576) (hM : ∀ x ∈ M, x.p.size ≤ 1048576) :
    Calls Tryz.prog 23 #[.slice A M.length c, .agg #[.string v.p, .int .u64 v.v, .int .i64 v.k, .slice v.x.A v.x.l.length v.x.c]] w fun e w' => EnOwn w' w.heap.size e (insE v M) ∧ Below w.heap.size w w' := by
  have hw1 : Below w.heap.size w (w.alloc (.cells #[.string v.p, .int .u64 v.v, .int .i64 v.k, .slice v.x.A v.x.l.length v.x.c] 41)) := (by repeat (first | exact Below.refl _ _ | refine Below.alloc ?_ (by simp) _ | refine Below.setCell ?_ (by simp) _ | refine Below.drew ?_))
  have x1 := Blk.new w 41 #[.string v.p, .int .u64 v.v, .int .i64 v.k, .slice v.x.A v.x.l.length v.x.c]
  have HI := Lib.hid (h.below hw1)
  have HP := Lib.hid hM
  have hlen := h.len
  clear h hM
  go_enter Tryz.func23, Tryz.ntmps23
  go_wp2_with fail
  generalize w.alloc (.cells #[.string v.p, .int .u64 v.v, .int .i64 v.k, .slice v.x.A v.x.l.length v.x.c] 41) = w1 at *
  go_loopw [5, 6, 7] (fun ov dv iv wr => ∃ (i : Nat) (A' : Option Addr) (c' : Nat) (l : List EV) (d : Bool), i ≤ M.length ∧ iv = .int .i64 (i : Int) ∧ dv = .bool d ∧ ov = .slice A' l.length c' ∧ Hid (d = behR (tl v.p) (keyE (M.take i))) ∧ Hid (l = midE v (M.take i)) ∧ l.length ≤ i + 1 ∧ OwE wr w1.heap.size A' c' l ∧ Below w1.heap.size w1 wr) (fun _ _ iv _ => M.length - (intOf iv).toNat)
  case atStart => exact ⟨0, none, 0, [], false, Nat.zero_le _, rfl, rfl, rfl, rfl, rfl, by simp, World.ownsRow_nil _ _ _ _, Below.refl _ _⟩
  case round =>
    obtain ⟨i, A', c', l, d, hi, rfl, rfl, rfl, hd, hl, hli, hor, hwr⟩ := hrel
    have HB : Hid (∀ W, Below w1.heap.size w1 W → W.cell? ⟨w.heap.size, 0, none⟩ = some (.string v.p) ∧ W.cell? ⟨w.heap.size, 1, none⟩ = some (.int .u64 v.v) ∧ W.cell? ⟨w.heap.size, 2, none⟩ = some (.int .i64 v.k) ∧ W.cell? ⟨w.heap.size, 3, none⟩ = some (.slice v.x.A v.x.l.length v.x.c)) := fun W hW => ⟨(x1.below hW).cell 0, (x1.below hW).cell 1, (x1.below hW).cell 2, (x1.below hW).cell 3⟩
    by_cases hlt : i < M.length
    · obtain ⟨b, off, hA, hbb, c0, d1, d2, d3⟩ := HI.out.at_ hlt
      have hxl := HP.out _ (List.getElem_mem hlt)
      subst hA
      have ht := List.take_succ_eq_append_getElem hlt
      obtain ⟨x, hx⟩ : ∃ x, x = M[i] := ⟨_, rfl⟩
      rw [← hx] at c0 d1 d2 d3 hxl ht
      have HX : Hid (∀ W, Below w1.heap.size w1 W → W.cell? ⟨b, off + i * 4, none⟩ = some (.string x.p) ∧ W.cell? ⟨b, off + i * 4 + 1, none⟩ = some (.int .u64 x.v) ∧ W.cell? ⟨b, off + i * 4 + 2, none⟩ = some (.int .i64 x.k) ∧ W.cell? ⟨b, off + i * 4 + 3, none⟩ = some (.slice x.x.A x.x.l.length x.x.c)) := by
        intro W hW
        rw [hW.cell hbb, hW.cell hbb, hW.cell hbb, hW.cell hbb]
        exact ⟨c0, d1, d2, d3⟩
      have ht2 : behR (tl v.p) (keyE (M.take (i + 1))) = (d || decide (0 < cmpT (tl x.p) (tl v.p))) := by
        rw [ht, keyE_app, beh_snoc, ← hd.out]
      clear c0 d1 d2 d3 hx
      cases d
      · have hb1 := hwr.size
        have HBH := Lib.hid hd.out
        have HL2 := Lib.hid hl.out
        obtain ⟨cm, hcm⟩ : ∃ cm, cm = cmpT (tl x.p) (tl v.p) := ⟨_, rfl⟩
        have HCM := Lib.hid (fun W => refCompare_any x.p v.p (by omega) (by omega) W)
        rw [← hcm] at HCM ht2
        clear hl hd
        go_upto_region 6 with (fail)
        have lm : l = M.take i := by
          rw [HL2.out]; unfold midE; rw [if_neg (by rw [← HBH.out]; simp)]
        have hli2 : l.length ≤ i := by rw [lm]; exact List.length_take_le _ _
        by_cases hc : 0 < cm
        · have hN : l ++ [v] ++ [x] = midE v (M.take (i + 1)) := by
            unfold midE
            rw [if_pos (by rw [ht2]; simp [hc]), ht, insE_here (by rw [← hcm]; exact hc) HBH.out.symm, lm]
          have HN := Lib.hid hN
          have HD : Hid (true = behR (tl v.p) (keyE (M.take (i + 1)))) := by
            show _ = _
            rw [ht2]; simp [hc]
          have hcd : decide (0 < cm) = true := decide_eq_true hc
          clear hcm
          refine wp_region_b 13 (by kernel_rfl) (by kernel_rfl) ?_
          simp only [List.take_succ_cons, List.take_zero, List.drop_succ_cons, List.drop_zero]
          refine lb_move _ (by kernel_rfl) rfl ⟨_, (by ((try simp [go_sem]); (try rfl); done)), _, (by (simp only [Act.put, List.setIfInBounds_toArray, List.set_cons_zero, List.set_cons_succ]; rfl)), ?_⟩
          refine lb_val (by kernel_rfl) ⟨_, (by (intro w' hC; clear hC; (try go_simp); (try with_reducible rfl); done)), _, (by (simp only [Act.put, List.setIfInBounds_toArray, List.set_cons_zero, List.set_cons_succ]; rfl)), ?_⟩
          refine lb_move _ (by kernel_rfl) rfl ⟨_, (by ((try simp [go_sem]); (try rfl); done)), _, (by (simp only [Act.put, List.setIfInBounds_toArray, List.set_cons_zero, List.set_cons_succ]; rfl)), ?_⟩
          first | (refine lb_skip (by rfl) ⟨_, (by (simp only [Act.put, List.setIfInBounds_toArray, List.set_cons_zero, List.set_cons_succ]; rfl)), ?_⟩) | (refine lb_move _ (by kernel_rfl) rfl ⟨_, (by ((try simp [go_sem]); (try rfl); done)), _, (by (simp only [Act.put, List.setIfInBounds_toArray, List.set_cons_zero, List.set_cons_succ]; rfl)), ?_⟩)
          first | (refine lb_skip (by rfl) ⟨_, (by (simp only [Act.put, List.setIfInBounds_toArray, List.set_cons_zero, List.set_cons_succ]; rfl)), ?_⟩) | (refine lb_move _ (by kernel_rfl) rfl ⟨_, (by ((try simp [go_sem]); (try rfl); done)), _, (by (simp only [Act.put, List.setIfInBounds_toArray, List.set_cons_zero, List.set_cons_succ]; rfl)), ?_⟩)
          first | (refine lb_skip (by rfl) ⟨_, (by (simp only [Act.put, List.setIfInBounds_toArray, List.set_cons_zero, List.set_cons_succ]; rfl)), ?_⟩) | (refine lb_val (by kernel_rfl) ⟨_, (by (intro w' hC; clear hC; (try go_simp); (try with_reducible rfl); done)), _, (by (simp only [Act.put, List.setIfInBounds_toArray, List.set_cons_zero, List.set_cons_succ]; rfl)), ?_⟩)
          first | (refine lb_skip (by rfl) ⟨_, (by (simp only [Act.put, List.setIfInBounds_toArray, List.set_cons_zero, List.set_cons_succ]; rfl)), ?_⟩) | (refine lb_val (by kernel_rfl) ⟨_, (by (intro w' hC; clear hC; (try go_simp); (try with_reducible rfl); done)), _, (by (simp only [Act.put, List.setIfInBounds_toArray, List.set_cons_zero, List.set_cons_succ]; rfl)), ?_⟩)
          first | (refine lb_skip (by rfl) ⟨_, (by (simp only [Act.put, List.setIfInBounds_toArray, List.set_cons_zero, List.set_cons_succ]; rfl)), ?_⟩) | (refine lb_val (by kernel_rfl) ⟨_, (by (intro w' hC; (have ⟨c0, _, _, _⟩ := HX.out w' (hwr.trans (hC.mono hwr.size))); clear hC; (try go_simp); (try with_reducible rfl); done)), _, (by (simp only [Act.put, List.setIfInBounds_toArray, List.set_cons_zero, List.set_cons_succ]; rfl)), ?_⟩)
          first | (refine lb_skip (by rfl) ⟨_, (by (simp only [Act.put, List.setIfInBounds_toArray, List.set_cons_zero, List.set_cons_succ]; rfl)), ?_⟩) | (refine lb_val (by kernel_rfl) ⟨_, (by (intro w' hC; clear hC; (try go_simp); (try with_reducible rfl); done)), _, (by (simp only [Act.put, List.setIfInBounds_toArray, List.set_cons_zero, List.set_cons_succ]; rfl)), ?_⟩)
          first | (refine lb_skip (by rfl) ⟨_, (by (simp only [Act.put, List.setIfInBounds_toArray, List.set_cons_zero, List.set_cons_succ]; rfl)), ?_⟩) | (refine lb_val (by kernel_rfl) ⟨_, (by (intro w' hC; (have ⟨q0, _, _, _⟩ := HB.out w' (hwr.trans (hC.mono hwr.size))); clear hC; (try go_simp); (try with_reducible rfl); done)), _, (by (simp only [Act.put, List.setIfInBounds_toArray, List.set_cons_zero, List.set_cons_succ]; rfl)), ?_⟩)
          first | (refine lb_skip (by rfl) ⟨_, (by (simp only [Act.put, List.setIfInBounds_toArray, List.set_cons_zero, List.set_cons_succ]; rfl)), ?_⟩) | (refine lb_call (by kernel_rfl) (fun w' hC => HCM.out _) (by (intro w'; go_simp; done)) ⟨_, (by (simp only [Act.put, List.setIfInBounds_toArray, List.set_cons_zero, List.set_cons_succ]; rfl)), ?_⟩)
          first | (refine lb_skip (by rfl) ⟨_, (by (simp only [Act.put, List.setIfInBounds_toArray, List.set_cons_zero, List.set_cons_succ]; rfl)), ?_⟩) | (refine lb_val (by kernel_rfl) ⟨_, (by (intro w' hC; clear hC; (try go_simp); (try with_reducible rfl); done)), _, (by (simp only [Act.put, List.setIfInBounds_toArray, List.set_cons_zero, List.set_cons_succ]; rfl)), ?_⟩)
          refine lb_val (by kernel_rfl) ⟨_, (by (intro w' hC; clear hC; (try go_simp); (try with_reducible rfl); done)), _, (by (simp only [Act.put, List.setIfInBounds_toArray, List.set_cons_zero, List.set_cons_succ]; rfl)), ?_⟩
          refine .nil ?_
          intro w2 hb2
          have hw2 := hwr.trans (hb2.mono hb1)
          have ho2 := hor.below hb2
          have hs2 := hw2.size
          clear hor hb2 HCM
          obtain ⟨q0, q1, q2, q3⟩ := HB.out w2 hw2
          have ba1 : Below w1.heap.size w1 (w2.alloc (.cells #[.string v.p, .int .u64 v.v, .int .i64 v.k, .slice v.x.A v.x.l.length v.x.c] 41)) := hw2.alloc hw2.size _; have oa1 := Lib.hid (ho2.below ((Below.refl _ w2).alloc (Nat.le_refl _) (.cells #[.string v.p, .int .u64 v.v, .int .i64 v.k, .slice v.x.A v.x.l.length v.x.c] 41))); have ra1 : Hid (Rd (w2.alloc (.cells #[.string v.p, .int .u64 v.v, .int .i64 v.k, .slice v.x.A v.x.l.length v.x.c] 41)) (fun _ => True) 4 (some ⟨w2.heap.size, 0, none⟩) 1 (EV.cells v)) := (Rd.lit (w := w2) (t := 41) (size := 4) (n := 1) (xs := EV.cells v) rfl rfl rfl).mono (fun _ _ _ => trivial)
          clear hN lm HL2 HBH ht2 ht ho2 HI x1
          go_wp2_with (first | (at_builtin; refine wpList_append_entry rfl (.tmp 27) (.tmp 29) (t := 30) rfl rfl rfl oa1.out rfl ra1.out (by simp; omega) ba1.size ?_; intro A5 c5 w5 ho5 hb5 _; have hw5 := ba1.trans hb5; obtain ⟨c0, c1', c2, c3⟩ := HX.out w5 hw5; clear oa1 ra1; have ba2 : Below w1.heap.size w1 (w5.alloc (.cells #[.string x.p, .int .u64 x.v, .int .i64 x.k, .slice x.x.A x.x.l.length x.x.c] 41)) := hw5.alloc hw5.size _; have oa2 := Lib.hid (ho5.below ((Below.refl _ w5).alloc (Nat.le_refl _) (.cells #[.string x.p, .int .u64 x.v, .int .i64 x.k, .slice x.x.A x.x.l.length x.x.c] 41))); have ra2 : Hid (Rd (w5.alloc (.cells #[.string x.p, .int .u64 x.v, .int .i64 x.k, .slice x.x.A x.x.l.length x.x.c] 41)) (fun _ => True) 4 (some ⟨w5.heap.size, 0, none⟩) 1 (EV.cells x)) := (Rd.lit (w := w5) (t := 41) (size := 4) (n := 1) (xs := EV.cells x) rfl rfl rfl).mono (fun _ _ _ => trivial)) | (at_builtin; refine wpList_append_entry rfl (.tmp 31) (.tmp 36) (t := 30) rfl rfl (by rw [List.length_append]; rfl) oa2.out rfl ra2.out (by simp; omega) ba2.size ?_; intro A7 c7 w7 ho7 hb7 _; have hw7 := ba2.trans hb7))
          go_roundw
          case rel => exact ⟨i + 1, A7, c7, l ++ [v] ++ [x], true, hlt, by go_num, rfl, by simp, HD, HN, by simp; omega, ho7, hw7⟩
          case measure => simp [intOf]; omega
        · have hN : l ++ [x] = midE v (M.take (i + 1)) := by
            unfold midE
            rw [if_neg (by rw [ht2]; simp [hc]), ht, lm]
          have HN := Lib.hid hN
          have HD : Hid (false = behR (tl v.p) (keyE (M.take (i + 1)))) := by
            show _ = _
            rw [ht2]; simp [hc]
          have hcd : decide (0 < cm) = false := decide_eq_false hc
          clear hcm
          refine wp_region_b 13 (by kernel_rfl) (by kernel_rfl) ?_
          simp only [List.take_succ_cons, List.take_zero, List.drop_succ_cons, List.drop_zero]
          refine lb_move _ (by kernel_rfl) rfl ⟨_, (by ((try simp [go_sem]); (try rfl); done)), _, (by (simp only [Act.put, List.setIfInBounds_toArray, List.set_cons_zero, List.set_cons_succ]; rfl)), ?_⟩
          refine lb_val (by kernel_rfl) ⟨_, (by (intro w' hC; clear hC; (try go_simp); (try with_reducible rfl); done)), _, (by (simp only [Act.put, List.setIfInBounds_toArray, List.set_cons_zero, List.set_cons_succ]; rfl)), ?_⟩
          refine lb_move _ (by kernel_rfl) rfl ⟨_, (by ((try simp [go_sem]); (try rfl); done)), _, (by (simp only [Act.put, List.setIfInBounds_toArray, List.set_cons_zero, List.set_cons_succ]; rfl)), ?_⟩
          first | (refine lb_skip (by rfl) ⟨_, (by (simp only [Act.put, List.setIfInBounds_toArray, List.set_cons_zero, List.set_cons_succ]; rfl)), ?_⟩) | (refine lb_move _ (by kernel_rfl) rfl ⟨_, (by ((try simp [go_sem]); (try rfl); done)), _, (by (simp only [Act.put, List.setIfInBounds_toArray, List.set_cons_zero, List.set_cons_succ]; rfl)), ?_⟩)
          first | (refine lb_skip (by rfl) ⟨_, (by (simp only [Act.put, List.setIfInBounds_toArray, List.set_cons_zero, List.set_cons_succ]; rfl)), ?_⟩) | (refine lb_move _ (by kernel_rfl) rfl ⟨_, (by ((try simp [go_sem]); (try rfl); done)), _, (by (simp only [Act.put, List.setIfInBounds_toArray, List.set_cons_zero, List.set_cons_succ]; rfl)), ?_⟩)
          first | (refine lb_skip (by rfl) ⟨_, (by (simp only [Act.put, List.setIfInBounds_toArray, List.set_cons_zero, List.set_cons_succ]; rfl)), ?_⟩) | (refine lb_val (by kernel_rfl) ⟨_, (by (intro w' hC; clear hC; (try go_simp); (try with_reducible rfl); done)), _, (by (simp only [Act.put, List.setIfInBounds_toArray, List.set_cons_zero, List.set_cons_succ]; rfl)), ?_⟩)
          first | (refine lb_skip (by rfl) ⟨_, (by (simp only [Act.put, List.setIfInBounds_toArray, List.set_cons_zero, List.set_cons_succ]; rfl)), ?_⟩) | (refine lb_val (by kernel_rfl) ⟨_, (by (intro w' hC; clear hC; (try go_simp); (try with_reducible rfl); done)), _, (by (simp only [Act.put, List.setIfInBounds_toArray, List.set_cons_zero, List.set_cons_succ]; rfl)), ?_⟩)
          first | (refine lb_skip (by rfl) ⟨_, (by (simp only [Act.put, List.setIfInBounds_toArray, List.set_cons_zero, List.set_cons_succ]; rfl)), ?_⟩) | (refine lb_val (by kernel_rfl) ⟨_, (by (intro w' hC; (have ⟨c0, _, _, _⟩ := HX.out w' (hwr.trans (hC.mono hwr.size))); clear hC; (try go_simp); (try with_reducible rfl); done)), _, (by (simp only [Act.put, List.setIfInBounds_toArray, List.set_cons_zero, List.set_cons_succ]; rfl)), ?_⟩)
          first | (refine lb_skip (by rfl) ⟨_, (by (simp only [Act.put, List.setIfInBounds_toArray, List.set_cons_zero, List.set_cons_succ]; rfl)), ?_⟩) | (refine lb_val (by kernel_rfl) ⟨_, (by (intro w' hC; clear hC; (try go_simp); (try with_reducible rfl); done)), _, (by (simp only [Act.put, List.setIfInBounds_toArray, List.set_cons_zero, List.set_cons_succ]; rfl)), ?_⟩)
          first | (refine lb_skip (by rfl) ⟨_, (by (simp only [Act.put, List.setIfInBounds_toArray, List.set_cons_zero, List.set_cons_succ]; rfl)), ?_⟩) | (refine lb_val (by kernel_rfl) ⟨_, (by (intro w' hC; (have ⟨q0, _, _, _⟩ := HB.out w' (hwr.trans (hC.mono hwr.size))); clear hC; (try go_simp); (try with_reducible rfl); done)), _, (by (simp only [Act.put, List.setIfInBounds_toArray, List.set_cons_zero, List.set_cons_succ]; rfl)), ?_⟩)
          first | (refine lb_skip (by rfl) ⟨_, (by (simp only [Act.put, List.setIfInBounds_toArray, List.set_cons_zero, List.set_cons_succ]; rfl)), ?_⟩) | (refine lb_call (by kernel_rfl) (fun w' hC => HCM.out _) (by (intro w'; go_simp; done)) ⟨_, (by (simp only [Act.put, List.setIfInBounds_toArray, List.set_cons_zero, List.set_cons_succ]; rfl)), ?_⟩)
          first | (refine lb_skip (by rfl) ⟨_, (by (simp only [Act.put, List.setIfInBounds_toArray, List.set_cons_zero, List.set_cons_succ]; rfl)), ?_⟩) | (refine lb_val (by kernel_rfl) ⟨_, (by (intro w' hC; clear hC; (try go_simp); (try with_reducible rfl); done)), _, (by (simp only [Act.put, List.setIfInBounds_toArray, List.set_cons_zero, List.set_cons_succ]; rfl)), ?_⟩)
          refine lb_val (by kernel_rfl) ⟨_, (by (intro w' hC; clear hC; (try go_simp); (try with_reducible rfl); done)), _, (by (simp only [Act.put, List.setIfInBounds_toArray, List.set_cons_zero, List.set_cons_succ]; rfl)), ?_⟩
          refine .nil ?_
          intro w2 hb2
          have hw2 := hwr.trans (hb2.mono hb1)
          have ho2 := hor.below hb2
          have hs2 := hw2.size
          clear hor hb2 HCM
          obtain ⟨c0, c1', c2, c3⟩ := HX.out w2 hw2
          have ba1 : Below w1.heap.size w1 (w2.alloc (.cells #[.string x.p, .int .u64 x.v, .int .i64 x.k, .slice x.x.A x.x.l.length x.x.c] 41)) := hw2.alloc hw2.size _; have oa1 := Lib.hid (ho2.below ((Below.refl _ w2).alloc (Nat.le_refl _) (.cells #[.string x.p, .int .u64 x.v, .int .i64 x.k, .slice x.x.A x.x.l.length x.x.c] 41))); have ra1 : Hid (Rd (w2.alloc (.cells #[.string x.p, .int .u64 x.v, .int .i64 x.k, .slice x.x.A x.x.l.length x.x.c] 41)) (fun _ => True) 4 (some ⟨w2.heap.size, 0, none⟩) 1 (EV.cells x)) := (Rd.lit (w := w2) (t := 41) (size := 4) (n := 1) (xs := EV.cells x) rfl rfl rfl).mono (fun _ _ _ => trivial)
          clear hN lm HL2 HBH ht2 ht ho2 HI x1
          go_wp2_with (at_builtin; refine wpList_append_entry rfl (.tmp 31) (.tmp 36) (t := 30) rfl rfl rfl oa1.out rfl ra1.out (by simp; omega) ba1.size ?_; intro A5 c5 w5 ho5 hb5 _; have hw5 := ba1.trans hb5)
          go_roundw
          case rel => exact ⟨i + 1, A5, c5, l ++ [x], false, hlt, by go_num, rfl, by simp, HD, HN, by simp; omega, ho5, hw5⟩
          case measure => simp [intOf]; omega
      · have hb1 := hwr.size
        have hN : l ++ [x] = midE v (M.take (i + 1)) := by
          unfold midE
          rw [if_pos (by rw [ht2]; simp), ht, insE_done hd.out.symm, hl.out]
          unfold midE
          rw [if_pos hd.out.symm]
        have HN := Lib.hid hN
        have HD : Hid (true = behR (tl v.p) (keyE (M.take (i + 1)))) := by
          show _ = _
          rw [ht2]; simp
        have HCM : Hid True := trivial
        clear ht2 ht hl hd hN
        go_upto_region 6 with (fail)
        refine wp_region_b 13 (by kernel_rfl) (by kernel_rfl) ?_
        simp only [List.take_succ_cons, List.take_zero, List.drop_succ_cons, List.drop_zero]
        refine lb_move _ (by kernel_rfl) rfl ⟨_, (by ((try simp [go_sem]); (try rfl); done)), _, (by (simp only [Act.put, List.setIfInBounds_toArray, List.set_cons_zero, List.set_cons_succ]; rfl)), ?_⟩
        refine lb_val (by kernel_rfl) ⟨_, (by (intro w' hC; clear hC; (try go_simp); (try with_reducible rfl); done)), _, (by (simp only [Act.put, List.setIfInBounds_toArray, List.set_cons_zero, List.set_cons_succ]; rfl)), ?_⟩
        refine lb_move _ (by kernel_rfl) rfl ⟨_, (by ((try simp [go_sem]); (try rfl); done)), _, (by (simp only [Act.put, List.setIfInBounds_toArray, List.set_cons_zero, List.set_cons_succ]; rfl)), ?_⟩
        first | (refine lb_skip (by rfl) ⟨_, (by (simp only [Act.put, List.setIfInBounds_toArray, List.set_cons_zero, List.set_cons_succ]; rfl)), ?_⟩) | (refine lb_move _ (by kernel_rfl) rfl ⟨_, (by ((try simp [go_sem]); (try rfl); done)), _, (by (simp only [Act.put, List.setIfInBounds_toArray, List.set_cons_zero, List.set_cons_succ]; rfl)), ?_⟩)
        first | (refine lb_skip (by rfl) ⟨_, (by (simp only [Act.put, List.setIfInBounds_toArray, List.set_cons_zero, List.set_cons_succ]; rfl)), ?_⟩) | (refine lb_move _ (by kernel_rfl) rfl ⟨_, (by ((try simp [go_sem]); (try rfl); done)), _, (by (simp only [Act.put, List.setIfInBounds_toArray, List.set_cons_zero, List.set_cons_succ]; rfl)), ?_⟩)
        first | (refine lb_skip (by rfl) ⟨_, (by (simp only [Act.put, List.setIfInBounds_toArray, List.set_cons_zero, List.set_cons_succ]; rfl)), ?_⟩) | (refine lb_val (by kernel_rfl) ⟨_, (by (intro w' hC; clear hC; (try go_simp); (try with_reducible rfl); done)), _, (by (simp only [Act.put, List.setIfInBounds_toArray, List.set_cons_zero, List.set_cons_succ]; rfl)), ?_⟩)
        first | (refine lb_skip (by rfl) ⟨_, (by (simp only [Act.put, List.setIfInBounds_toArray, List.set_cons_zero, List.set_cons_succ]; rfl)), ?_⟩) | (refine lb_val (by kernel_rfl) ⟨_, (by (intro w' hC; clear hC; (try go_simp); (try with_reducible rfl); done)), _, (by (simp only [Act.put, List.setIfInBounds_toArray, List.set_cons_zero, List.set_cons_succ]; rfl)), ?_⟩)
        first | (refine lb_skip (by rfl) ⟨_, (by (simp only [Act.put, List.setIfInBounds_toArray, List.set_cons_zero, List.set_cons_succ]; rfl)), ?_⟩) | (refine lb_val (by kernel_rfl) ⟨_, (by (intro w' hC; (have ⟨c0, _, _, _⟩ := HX.out w' (hwr.trans (hC.mono hwr.size))); clear hC; (try go_simp); (try with_reducible rfl); done)), _, (by (simp only [Act.put, List.setIfInBounds_toArray, List.set_cons_zero, List.set_cons_succ]; rfl)), ?_⟩)
        first | (refine lb_skip (by rfl) ⟨_, (by (simp only [Act.put, List.setIfInBounds_toArray, List.set_cons_zero, List.set_cons_succ]; rfl)), ?_⟩) | (refine lb_val (by kernel_rfl) ⟨_, (by (intro w' hC; clear hC; (try go_simp); (try with_reducible rfl); done)), _, (by (simp only [Act.put, List.setIfInBounds_toArray, List.set_cons_zero, List.set_cons_succ]; rfl)), ?_⟩)
        first | (refine lb_skip (by rfl) ⟨_, (by (simp only [Act.put, List.setIfInBounds_toArray, List.set_cons_zero, List.set_cons_succ]; rfl)), ?_⟩) | (refine lb_val (by kernel_rfl) ⟨_, (by (intro w' hC; (have ⟨q0, _, _, _⟩ := HB.out w' (hwr.trans (hC.mono hwr.size))); clear hC; (try go_simp); (try with_reducible rfl); done)), _, (by (simp only [Act.put, List.setIfInBounds_toArray, List.set_cons_zero, List.set_cons_succ]; rfl)), ?_⟩)
        first | (refine lb_skip (by rfl) ⟨_, (by (simp only [Act.put, List.setIfInBounds_toArray, List.set_cons_zero, List.set_cons_succ]; rfl)), ?_⟩) | (refine lb_call (by kernel_rfl) (fun w' hC => HCM.out _) (by (intro w'; go_simp; done)) ⟨_, (by (simp only [Act.put, List.setIfInBounds_toArray, List.set_cons_zero, List.set_cons_succ]; rfl)), ?_⟩)
        first | (refine lb_skip (by rfl) ⟨_, (by (simp only [Act.put, List.setIfInBounds_toArray, List.set_cons_zero, List.set_cons_succ]; rfl)), ?_⟩) | (refine lb_val (by kernel_rfl) ⟨_, (by (intro w' hC; clear hC; (try go_simp); (try with_reducible rfl); done)), _, (by (simp only [Act.put, List.setIfInBounds_toArray, List.set_cons_zero, List.set_cons_succ]; rfl)), ?_⟩)
        refine lb_val (by kernel_rfl) ⟨_, (by (intro w' hC; clear hC; (try go_simp); (try with_reducible rfl); done)), _, (by (simp only [Act.put, List.setIfInBounds_toArray, List.set_cons_zero, List.set_cons_succ]; rfl)), ?_⟩
        refine .nil ?_
        intro w2 hb2
        have hw2 := hwr.trans (hb2.mono hb1)
        have ho2 := hor.below hb2
        clear hor hb2
        obtain ⟨c0, c1', c2, c3⟩ := HX.out w2 hw2
        have ba1 : Below w1.heap.size w1 (w2.alloc (.cells #[.string x.p, .int .u64 x.v, .int .i64 x.k, .slice x.x.A x.x.l.length x.x.c] 41)) := hw2.alloc hw2.size _; have oa1 := Lib.hid (ho2.below ((Below.refl _ w2).alloc (Nat.le_refl _) (.cells #[.string x.p, .int .u64 x.v, .int .i64 x.k, .slice x.x.A x.x.l.length x.x.c] 41))); have ra1 : Hid (Rd (w2.alloc (.cells #[.string x.p, .int .u64 x.v, .int .i64 x.k, .slice x.x.A x.x.l.length x.x.c] 41)) (fun _ => True) 4 (some ⟨w2.heap.size, 0, none⟩) 1 (EV.cells x)) := (Rd.lit (w := w2) (t := 41) (size := 4) (n := 1) (xs := EV.cells x) rfl rfl rfl).mono (fun _ _ _ => trivial)
        clear ho2 HI x1
        go_wp2_with (at_builtin; refine wpList_append_entry rfl (.tmp 31) (.tmp 36) (t := 30) rfl rfl rfl oa1.out rfl ra1.out (by simp; omega) ba1.size ?_; intro A5 c5 w5 ho5 hb5 _; have hw5 := ba1.trans hb5)
        go_roundw
        case rel => exact ⟨i + 1, A5, c5, l ++ [x], true, hlt, by go_num, rfl, by simp, HD, HN, by simp; omega, ho5, hw5⟩
        case measure => simp [intOf]; omega
    · have e : i = M.length := by omega
      subst e
      rw [List.take_length] at hd hl
      have hs1 := hw1.size
      cases d
      · have HN : Hid (l ++ [v] = insE v M) := by
          show _ = _
          rw [insE_none hd.out.symm, hl.out]
          unfold midE
          rw [if_neg (by rw [← hd.out]; simp)]
        obtain ⟨q0, q1, q2, q3⟩ := HB.out wr hwr
        have ba1 : Below w1.heap.size w1 (wr.alloc (.cells #[.string v.p, .int .u64 v.v, .int .i64 v.k, .slice v.x.A v.x.l.length v.x.c] 41)) := hwr.alloc hwr.size _; have oa1 := Lib.hid (hor.below ((Below.refl _ wr).alloc (Nat.le_refl _) (.cells #[.string v.p, .int .u64 v.v, .int .i64 v.k, .slice v.x.A v.x.l.length v.x.c] 41))); have ra1 : Hid (Rd (wr.alloc (.cells #[.string v.p, .int .u64 v.v, .int .i64 v.k, .slice v.x.A v.x.l.length v.x.c] 41)) (fun _ => True) 4 (some ⟨wr.heap.size, 0, none⟩) 1 (EV.cells v)) := (Rd.lit (w := wr) (t := 41) (size := 4) (n := 1) (xs := EV.cells v) rfl rfl rfl).mono (fun _ _ _ => trivial)
        clear hl hd hor HI x1
        go_wp2_with (at_builtin; refine wpList_append_entry rfl (.tmp 40) (.tmp 42) (t := 30) rfl rfl rfl oa1.out rfl ra1.out (by simp; omega) ba1.size ?_; intro A5 c5 w5 ho5 hb5 _; have hw5 := ba1.trans hb5)
        go_ret
        exact ⟨⟨A5, c5, l ++ [v], by simp, HN, own_base ho5 (fun g hg => Nat.le_trans hs1 (ho5.lt _ hg).1)⟩, hw1.trans (hw5.mono hs1)⟩
      · have HN : Hid (l = insE v M) := by
          show _ = _
          rw [hl.out]
          unfold midE
          rw [if_pos hd.out.symm]
        clear hl hd HI x1
        go_wp2_with fail
        go_ret
        exact ⟨⟨A', c', l, rfl, HN, own_base hor (fun g hg => Nat.le_trans hs1 (hor.lt _ hg).1)⟩, hw1.trans (hwr.mono hs1)⟩

end Go.Proofs.YtkeledbgmpienaaGreat
