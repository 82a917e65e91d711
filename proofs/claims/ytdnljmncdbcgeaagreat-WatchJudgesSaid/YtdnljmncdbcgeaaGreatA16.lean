/- book.Book: get, Get, Next. -/
import Derived.Test.YtdnljmncdbcgeaaGreatA15
import Derived.Deep.Cut
import Derived.Shelf.SlIter.Nil

namespace Go.Proofs.YtdnljmncdbcgeaaGreat
open Go.RowKit

def noE : EV := ⟨⟨#[]⟩, 0, 0, ⟨none, 0, []⟩⟩
theorem noE_ok (w : World) : noE.x.ok w (fun _ => True) := ⟨Rd.nil, by simp [noE], by simp [noE, maxLen]⟩
theorem entryV_zero (w : World) : (zeroValue 59).run Tryz.prog w = .ok noE.val w := by kernel_rfl
set_option maxRecDepth 100000 in
theorem BookAt.look {w : World} {bb : Nat} {mo : Option Nat} {L : List (List UInt8 × EV)} {s : Int} (h : BookAt w bb mo L s) (p : List UInt8) (hp : p.length ≤ maxLen) :
    (Instr.lookup 117 (.map mo) (.string ⟨⟨p⟩⟩) true).run Tryz.prog w = .ok (.tuple #[((getR L p).getD noE).val, .bool (getR L p).isSome]) w := by
  rcases h.map with ⟨rfl, rfl⟩ | ⟨mb, rfl, hm⟩
  · exact Go.Maps.look_nil (t := 117) (e := 59) true (Go.Maps.string_keyed Tryz.underlying9) Tryz.underlying117 (entryV_zero w) (Go.WideMaps.keyOf_string_mk Tryz.underlying9 (s := ⟨⟨p⟩⟩) hp)
  · rw [hm.look_ok Tryz.underlying9 (t := 117) (e := 59) Tryz.underlying117 (entryV_zero w) p hp, get_mapB]
    rcases getR L p with _ | o <;> rfl
set_option maxRecDepth 100000 in
set_option maxHeartbeats 1000000 in
theorem bookget_any (bb : Nat) (mo : Option Nat) (L : List (List UInt8 × EV)) (s : Int) (p : List UInt8) (w : World) (h : BookAt w bb mo L s) (hp : p.length ≤ maxLen) :
    Calls Tryz.prog 58 #[.pointer (some ⟨bb, 0, none⟩), .string ⟨⟨p⟩⟩] w fun e w' => (∃ o : EV, e = .returned (.tuple #[.agg #[.string o.p, .int .u64 o.v, .int .i64 o.k, .slice o.x.A o.x.l.length o.x.c], .bool (getR L p).isSome]) ∧ Hid (o = (getR L p).getD noE)) ∧ Below w.heap.size w w' := by
  have hb0 : Below w.heap.size w (w.alloc (.cells #[.string ⟨#[]⟩, .int .u64 0, .int .i64 0, .slice none 0 0] 59)) := (by repeat (first | exact Below.refl _ _ | refine Below.alloc ?_ (by simp) _ | refine Below.setCell ?_ (by simp) _ | refine Below.drew ?_))
  have h0 := h.below hb0
  obtain ⟨_, c1⟩ := h0.cells
  obtain ⟨o, ho⟩ : ∃ o, o = (getR L p).getD noE := ⟨_, rfl⟩
  have HO := Lib.hid ho
  have hl := h0.look p hp
  rw [← ho] at hl
  obtain ⟨sm, hsm⟩ : ∃ sm, sm = (getR L p).isSome := ⟨_, rfl⟩
  rw [← hsm] at hl ⊢
  unfold EV.val at hl
  clear h h0 ho hsm
  have x3 := Blk.new w 59 #[.string o.p, .int .u64 o.v, .int .i64 o.k, .slice o.x.A o.x.l.length o.x.c]
  have z0 := x3.cell 0
  have z1 := x3.cell 1
  have z2 := x3.cell 2
  have z3 := x3.cell 3
  simp only [List.getElem?_toArray, List.getElem?_cons_zero, List.getElem?_cons_succ] at z0 z1 z2 z3
  go_enter Tryz.func58, Tryz.ntmps58
  go_wp2_with fail
  refine bodyPost_ret (v := .tuple #[.agg #[.string o.p, .int .u64 o.v, .int .i64 o.k, .slice o.x.A o.x.l.length o.x.c], .bool sm]) (by simp [results, Tryz.results58, go_sem, z0, z1, z2, z3]) rfl ?_
  exact ⟨⟨o, rfl, HO.out⟩, (by repeat (first | exact Below.refl _ _ | refine Below.alloc ?_ (by simp) _ | refine Below.setCell ?_ (by simp) _ | refine Below.drew ?_))⟩
set_option maxRecDepth 100000 in
set_option maxHeartbeats 1000000 in
theorem bookget_nil (p : List UInt8) (w : World) :
    Calls Tryz.prog 58 #[.pointer none, .string ⟨⟨p⟩⟩] w fun e w' => e = .returned (.tuple #[.agg #[.string ⟨#[]⟩, .int .u64 0, .int .i64 0, .slice none 0 0], .bool false]) ∧ Below w.heap.size w w' := by
  have x3 := Blk.new w 59 #[.string ⟨#[]⟩, .int .u64 0, .int .i64 0, .slice none 0 0]
  have z0 := x3.cell 0
  have z1 := x3.cell 1
  have z2 := x3.cell 2
  have z3 := x3.cell 3
  simp only [List.getElem?_toArray, List.getElem?_cons_zero, List.getElem?_cons_succ] at z0 z1 z2 z3
  go_enter Tryz.func58, Tryz.ntmps58
  go_wp2_with fail
  refine bodyPost_ret (v := .tuple #[.agg #[.string ⟨#[]⟩, .int .u64 0, .int .i64 0, .slice none 0 0], .bool false]) (by simp [results, Tryz.results58, go_sem, z0, z1, z2, z3]) rfl ?_
  exact ⟨rfl, (by repeat (first | exact Below.refl _ _ | refine Below.alloc ?_ (by simp) _ | refine Below.setCell ?_ (by simp) _ | refine Below.drew ?_))⟩
/-- the book written: its session -/
theorem BookAt.set {w : World} {bb : Nat} {mo : Option Nat} {L : List (List UInt8 × EV)} {s : Int} (h : BookAt w bb mo L s) (s' : Int) : BookAt (w.setCell ⟨bb, 0, none⟩ (.int .u64 s')) bb mo L s' := by
  have k : Fr (fun x => x = bb) w (w.setCell ⟨bb, 0, none⟩ (.int .u64 s')) := (Fr.refl (fun x => x = bb) w).setAt bb 0 rfl _
  refine ⟨by simpa using h.blk.set_ 0 (.int .u64 s'), ?_, fun x hx => ⟨own_fr (h.ok x hx).own k (fun g hg e => h.ownT (h.ok x hx).own (by decide) g hg (.inl e)), (h.ok x hx).p⟩, h.plain⟩
  rcases h.map with h1 | ⟨mb, e, hm⟩
  · exact .inl h1
  · exact .inr ⟨mb, e, hm.block (k.block mb hm.lt (fun e2 => h.ne (by rw [e, e2])))⟩
end Go.Proofs.YtdnljmncdbcgeaaGreat

/- book.Book's paths, in order. -/
namespace Go.Proofs.YtdnljmncdbcgeaaGreat
open Go.RowKit Go.Maps Go.Sort Go.Shelf

theorem keysB_any (mo : Option Nat) (W : World) : Calls Tryz.prog 110 #[.map mo] W fun e w' => e = .returned (.func (.func 131) #[] #[.pointer (some ⟨W.heap.size, 0, none⟩)]) ∧ w' = W.alloc (.cells #[.map mo] 117) :=
  (callsIn_wide (n := 5)).1 (AnyZ.keys_in Tryz.keysB Fence.wide 5 trivial rfl mo W)
set_option maxRecDepth 100000 in
set_option maxHeartbeats 1000000 in
theorem collectB_any {mb : Nat} {L : List (List UInt8 × Value)} (w : World) (h : MapAt w Tryz.prog 9 mb L) (hl : L.length ≤ 1000000) :
    Calls Tryz.prog 129 #[.func (.func 131) #[] #[.pointer (some ⟨w.heap.size, 0, none⟩)]] (w.alloc (.cells #[.map (some mb)] 117)) fun e w' => ∃ A c, ∃ ss : List (List UInt8), e = .returned (.slice A ss.length c) ∧ w'.ownsRow w.heap.size 9 1 (.slice A ss.length c) ss.length (ss.map stv) ∧ Hid (ss.Perm (keysR L)) ∧ Below w.heap.size w w' := by
  obtain ⟨D, hown, ht⟩ := h.own
  obtain ⟨hp, hz⟩ := own_keys hown Tryz.underlying9 ht h.sort
  have hseq : SeqGives Fence.wide 3 Tryz.prog 131 #[.pointer (some ⟨w.heap.size, 0, none⟩)] encStr (fun ss => ss.Perm (strKeys D)) (Maps.size D) (w.alloc (.cells #[.map (some mb)] 117)) :=
    AnyZ.keys_gives (ρ := Tryz.keysB_ren) { Tryz.keysB with } Fence.wide _ trivial rfl (by omega) w.heap.size mb L.length D _ (by simp) (by simp) (by
      obtain ⟨es, clock, hb, Ft, hs, hD⟩ := hown
      exact ⟨es, clock, (Below.heap_alloc _ _ mb h.lt).trans hb, Ft, hs, hD⟩)
  have cC := AnyZ.collect_in Tryz.collectB Fence.wide 5 trivial trivial rfl (by omega) 131 #[.pointer (some ⟨w.heap.size, 0, none⟩)] trivial (enters_of Tryz.func131 (by kernel_rfl) rfl) _ _ (by rw [hz]; simp only [maxLen]; omega) (by rw [hz]; omega) _ hseq
  change CallsIn _ _ Tryz.prog 129 _ _ _ at cC
  refine ((callsIn_wide (n := 5)).1 cC).mono ?_
  rintro e w' ⟨v, ss, rfl, hS, hrow, hnil, hb⟩
  have hrow2 := own_base (base' := w.heap.size) hrow (fun g hg => by have := (hrow.lt g hg).1; simp at this; omega)
  obtain ⟨A, c, rfl, _⟩ := own_form hrow2
  exact ⟨A, c, ss, rfl, hrow2, hS.trans hp.symm, ((Below.refl _ w).alloc (Nat.le_refl _) _).trans (hb.mono (by simp))⟩
set_option maxRecDepth 100000 in
set_option maxHeartbeats 1000000 in
theorem collectB_nil (w : World) :
    Calls Tryz.prog 129 #[.func (.func 131) #[] #[.pointer (some ⟨w.heap.size, 0, none⟩)]] (w.alloc (.cells #[.map none] 117)) fun e w' => ∃ A c, ∃ ss : List (List UInt8), e = .returned (.slice A ss.length c) ∧ w'.ownsRow w.heap.size 9 1 (.slice A ss.length c) ss.length (ss.map stv) ∧ Hid (ss.Perm (keysR ([] : List (List UInt8 × Value)))) ∧ Below w.heap.size w w' := by
  have hseq : SeqGives Fence.wide 3 Tryz.prog 131 #[.pointer (some ⟨w.heap.size, 0, none⟩)] encStr (fun ss => ss = []) 0 (w.alloc (.cells #[.map none] 117)) :=
    AnyZ.keys_gives_nil (ρ := Tryz.keysB_ren) { Tryz.keysB with } Fence.wide _ trivial rfl w.heap.size _ (by simp) (by simp)
  have cC := AnyZ.collect_in Tryz.collectB Fence.wide 5 trivial trivial rfl (by omega) 131 #[.pointer (some ⟨w.heap.size, 0, none⟩)] trivial (enters_of Tryz.func131 (by kernel_rfl) rfl) _ _ (by simp only [maxLen]; omega) (by omega) _ hseq
  change CallsIn _ _ Tryz.prog 129 _ _ _ at cC
  refine ((callsIn_wide (n := 5)).1 cC).mono ?_
  rintro e w' ⟨v, ss, rfl, hS, hrow, hnil, hb⟩
  have hrow2 := own_base (base' := w.heap.size) hrow (fun g hg => by have := (hrow.lt g hg).1; simp at this; omega)
  obtain ⟨A, c, rfl, _⟩ := own_form hrow2
  exact ⟨A, c, ss, rfl, hrow2, by show ss.Perm _; rw [hS]; exact List.Perm.refl _, ((Below.refl _ w).alloc (Nat.le_refl _) _).trans (hb.mono (by simp))⟩
/-- a map or none, as a row -/
def MapO (w : World) (mo : Option Nat) (L : List (List UInt8 × Value)) : Prop := (mo = none ∧ L = []) ∨ ∃ mb, mo = some mb ∧ MapAt w Tryz.prog 9 mb L
theorem MapO.sort {w : World} {mo : Option Nat} {L : List (List UInt8 × Value)} (h : MapO w mo L) : SortR L := by
  rcases h with ⟨_, rfl⟩ | ⟨mb, _, hm⟩
  · exact sortR_nil
  · exact hm.sort
theorem collectO_any {mo : Option Nat} {L : List (List UInt8 × Value)} (w : World) (h : MapO w mo L) (hl : L.length ≤ 1000000) :
    Calls Tryz.prog 129 #[.func (.func 131) #[] #[.pointer (some ⟨w.heap.size, 0, none⟩)]] (w.alloc (.cells #[.map mo] 117)) fun e w' => ∃ A c, ∃ ss : List (List UInt8), e = .returned (.slice A ss.length c) ∧ w'.ownsRow w.heap.size 9 1 (.slice A ss.length c) ss.length (ss.map stv) ∧ Hid (ss.Perm (keysR L)) ∧ Below w.heap.size w w' := by
  rcases h with ⟨rfl, rfl⟩ | ⟨mb, rfl, hm⟩
  · exact collectB_nil w
  · exact collectB_any w hm hl
set_option maxRecDepth 100000 in
set_option maxHeartbeats 1000000 in
theorem sortedB_any {mo : Option Nat} {L : List (List UInt8 × Value)} (w : World) (h : MapO w mo L) (hl : L.length ≤ 1000000) (hk : ∀ x ∈ L, x.1.length ≤ 140737488355328) :
    Calls Tryz.prog 109 #[.func (.func 131) #[] #[.pointer (some ⟨w.heap.size, 0, none⟩)], .func (.func 70) #[] #[]] (w.alloc (.cells #[.map mo] 117)) fun e w' => ∃ A c, e = .returned (.slice A L.length c) ∧ w'.ownsRow w.heap.size 9 1 (.slice A L.length c) L.length ((keysR L).map stv) ∧ Below w.heap.size w w' := by
  have HC := Lib.hid (collectO_any w h hl)
  have HS := Lib.hid h.sort
  have HK := Lib.hid hk
  clear h hk
  go_enter Tryz.func109, Tryz.ntmps109
  go_wp2_with fail
  refine HC.out.mono ?_
  rintro e w1 ⟨A, c, ss, rfl, hr, hp, hb⟩
  have hsl : ss.length = L.length := by rw [hp.out.length_eq, keys_len]
  have hmem : ∀ k, k ∈ ss ↔ k ∈ keysR L := fun k => hp.out.mem_iff
  have hfin : ss.mergeSort leT = keysR L := by
    have := sort_keys HS.out (fun _ => true) (hp.out.nodup_iff.2 HS.out.nodup) (fun k => by simp [hmem k])
    rwa [List.filter_eq_self.2 (fun _ _ => rfl)] at this
  have HT := sortsT w.heap.size A c ss w1 hr (fun x hx => by
    obtain ⟨y, hy, rfl⟩ := List.mem_map.1 ((hmem x).1 hx)
    exact HK.out y hy) (by omega)
  rw [hfin] at HT
  have hab : ∀ g, ablk A = some g → w.heap.size ≤ g := fun g hg => ((Row.of_own hr).lt g hg).1
  replace HT := Lib.hid HT
  have HSL := Lib.hid hsl
  clear hr hp hmem hfin HC hsl
  go_wp2_with fail
  refine HT.out.mono ?_
  rintro e w2 ⟨rfl, hr2, hg2⟩
  rw [HSL.out] at hr2
  rw [HSL.out]
  have HR := Lib.hid hr2
  have hw2 := hb.trans (grown_below hg2 hb.size hab)
  clear HT hr2 hg2 hb
  go_wp2_with fail
  go_ret
  exact ⟨A, c, rfl, HR.out, hw2⟩
set_option maxRecDepth 100000 in
set_option maxHeartbeats 1000000 in
/-- the paths of a book -/
theorem bookPaths_any (bb : Nat) (mo : Option Nat) (L : List (List UInt8 × EV)) (s : Int) (w : World) (h : BookAt w bb mo L s) :
    Calls Tryz.prog 76 #[.pointer (some ⟨bb, 0, none⟩)] w fun e w' => ∃ A c, e = .returned (.slice A L.length c) ∧ w'.ownsRow w.heap.size 9 1 (.slice A L.length c) L.length ((keysR L).map stv) ∧ Below w.heap.size w w' := by
  obtain ⟨_, c1⟩ := h.cells
  have hm : MapO w mo (mapB L) := by
    rcases h.map with ⟨e, e2⟩ | ⟨mb, e, hm⟩
    · exact .inl ⟨e, by rw [e2]; rfl⟩
    · exact .inr ⟨mb, e, hm⟩
  have hkm : keysR (mapB L) = keysR L := by simp [keysR, mapB, Function.comp_def]
  have HSB := sortedB_any w hm (by rw [mapB_len]; exact Nat.le_trans h.len (by omega)) (fun x hx => by
    obtain ⟨y, hy, rfl⟩ := List.mem_map.1 hx
    exact Nat.le_trans (h.keys hy) (by omega))
  rw [mapB_len, hkm] at HSB
  replace HSB := Lib.hid HSB
  have HKE := Lib.hid (keysB_any mo w)
  clear h hm hkm
  go_enter Tryz.func76, Tryz.ntmps76
  go_wp2_with fail
  refine HKE.out.mono ?_
  rintro e w1 ⟨rfl, rfl⟩
  go_wp2_with fail
  refine HSB.out.mono ?_
  rintro e w2 ⟨A, c, rfl, hr, hb⟩
  have HR := Lib.hid hr
  clear hr HSB HKE
  go_wp2_with fail
  go_ret
  exact ⟨A, c, rfl, HR.out, hb⟩
set_option maxRecDepth 100000 in
theorem bookPaths_nil (w : World) : Calls Tryz.prog 76 #[.pointer none] w fun e w' => e = .returned (.slice none 0 0) ∧ w = w' := by
  go_enter Tryz.func76, Tryz.ntmps76
  go_wp2_with fail
  go_ret
  exact ⟨rfl, rfl⟩
end Go.Proofs.YtdnljmncdbcgeaaGreat

/- book.Book: Get, Next. -/
namespace Go.Proofs.YtdnljmncdbcgeaaGreat
open Go.RowKit

/-- what Get tells -/
def gotE (L : List (List UInt8 × EV)) (p : List UInt8) : EV := (getR L p).getD ⟨⟨⟨p⟩⟩, 0, 0, ⟨none, 0, []⟩⟩

set_option maxRecDepth 100000 in
set_option maxHeartbeats 1000000 in
theorem bookGet_any (bb : Nat) (mo : Option Nat) (L : List (List UInt8 × EV)) (s : Int) (p : List UInt8) (w : World) (h : BookAt w bb mo L s) (hp : p.length ≤ maxLen) :
    Calls Tryz.prog 55 #[.pointer (some ⟨bb, 0, none⟩), .string ⟨⟨p⟩⟩] w fun e w' => ∃ (q : ByteArray) (v k : Int) (A' : Option Addr) (c' : Nat) (l' : List UInt8), e = .returned (.agg #[.string q, .int .u64 v, .int .i64 k, .slice A' l'.length c']) ∧ Hid (q = (gotE L p).p ∧ v = (gotE L p).v ∧ k = (gotE L p).k ∧ l' = (gotE L p).x.l) ∧ OwB w' w.heap.size (.slice A' l'.length c') l' ∧ Below w.heap.size w w' := by
  have hb0 : Below w.heap.size w (w.alloc (.cells #[.string ⟨#[]⟩, .int .u64 0, .int .i64 0, .slice none 0 0] 59)) := (by repeat (first | exact Below.refl _ _ | refine Below.alloc ?_ (by simp) _ | refine Below.setCell ?_ (by simp) _ | refine Below.drew ?_))
  have x0 := Blk.new w 59 #[.string ⟨#[]⟩, .int .u64 0, .int .i64 0, .slice none 0 0]
  have HG := Lib.hid (bookget_any bb mo L s p _ (h.below hb0) hp)
  have hl : ∀ x ∈ L, x.2.x.l.length ≤ 140737488355328 := fun x hx => Nat.le_trans (h.data hx) (by omega)
  have HB := Lib.hid h
  clear h
  rcases hg : getR L p with _ | o
  · have HGE : Hid (gotE L p = ⟨⟨⟨p⟩⟩, 0, 0, ⟨none, 0, []⟩⟩) := Lib.hid (by unfold gotE; rw [hg]; rfl)
    rw [hg] at HG
    clear hg hl
    go_enter Tryz.func55, Tryz.ntmps55
    go_wp2_with fail
    refine HG.out.mono ?_
    rintro e w1 ⟨⟨o, rfl, ho⟩, hb1⟩
    have hw1 := hb0.trans (hb1.mono hb0.size)
    have hba : Below w1.heap.size w1 (w1.alloc (.cells #[.string o.p, .int .u64 o.v, .int .i64 o.k, .slice o.x.A o.x.l.length o.x.c] 59)) := (Below.refl _ _).alloc (Nat.le_refl _) _
    have hw2 := hw1.trans (hba.mono hw1.size)
    have x2 := (x0.below hb1).below hba
    go_upto_region 3 with (fail)
    generalize w1.alloc (.cells #[.string o.p, .int .u64 o.v, .int .i64 o.k, .slice o.x.A o.x.l.length o.x.c] 59) = w2 at *
    have r0 := x2.cell 0
    have r1 := x2.cell 1
    have r2 := x2.cell 2
    have r3 := x2.cell 3
    simp only [List.getElem?_toArray, List.getElem?_cons_zero, List.getElem?_cons_succ] at r0 r1 r2 r3
    have fr := fun o => x2.frozen o
    go_wp2_with fail
    have kR : Fr (fun x => x = w.heap.size) w2 ((((w2.setCell ⟨w.heap.size, 0, none⟩ (.string ⟨⟨p⟩⟩)).setCell ⟨w.heap.size, 1, none⟩ (.int .u64 0)).setCell ⟨w.heap.size, 2, none⟩ (.int .i64 0)).setCell ⟨w.heap.size, 3, none⟩ (.slice none 0 0)) := (((((Fr.refl (fun x => x = w.heap.size) w2).setAt (w.heap.size) _ rfl _).setAt (w.heap.size) _ rfl _).setAt (w.heap.size) _ rfl _).setAt (w.heap.size) _ rfl _)
    have yR := ((((x2.set_ 0 (.string ⟨⟨p⟩⟩)).set_ 1 (.int .u64 0)).set_ 2 (.int .i64 0)).set_ 3 (.slice none 0 0))
    simp only [List.setIfInBounds_toArray, List.set_cons_zero, List.set_cons_succ] at yR
    have hwR : Below w.heap.size w ((((w2.setCell ⟨w.heap.size, 0, none⟩ (.string ⟨⟨p⟩⟩)).setCell ⟨w.heap.size, 1, none⟩ (.int .u64 0)).setCell ⟨w.heap.size, 2, none⟩ (.int .i64 0)).setCell ⟨w.heap.size, 3, none⟩ (.slice none 0 0)) := hw2.trans (kR.below (B := w.heap.size) hw2.size (fun k hk e => by omega))
    generalize ((((w2.setCell ⟨w.heap.size, 0, none⟩ (.string ⟨⟨p⟩⟩)).setCell ⟨w.heap.size, 1, none⟩ (.int .u64 0)).setCell ⟨w.heap.size, 2, none⟩ (.int .i64 0)).setCell ⟨w.heap.size, 3, none⟩ (.slice none 0 0)) = wR at *
    have s0 := yR.cell 0
    have s1 := yR.cell 1
    have s2 := yR.cell 2
    have s3 := yR.cell 3
    simp only [List.getElem?_toArray, List.getElem?_cons_zero, List.getElem?_cons_succ] at s0 s1 s2 s3
    refine bodyPost_ret (v := .agg #[.string ⟨⟨p⟩⟩, .int .u64 0, .int .i64 0, .slice none 0 0]) (by simp [results, Tryz.results55, go_sem, s0, s1, s2, s3]) rfl ?_
    exact ⟨⟨⟨p⟩⟩, 0, 0, none, 0, [], rfl, by show _ ∧ _; rw [HGE.out]; exact ⟨rfl, rfl, rfl, rfl⟩, OwB.nil _ _, hwR⟩
  · have HGE : Hid (gotE L p = o) := Lib.hid (by unfold gotE; rw [hg]; rfl)
    have hol := hl _ (getR_mem hg)
    have hob := (HB.out.ok _ (getR_mem hg)).x
    dsimp only at hol hob
    rw [hg] at HG
    clear hg hl
    go_enter Tryz.func55, Tryz.ntmps55
    go_wp2_with fail
    refine HG.out.mono ?_
    rintro e w1 ⟨⟨o', rfl, ho⟩, hb1⟩
    obtain rfl : o' = o := ho.out
    clear ho
    have hw1 := hb0.trans (hb1.mono hb0.size)
    have hba : Below w1.heap.size w1 (w1.alloc (.cells #[.string o'.p, .int .u64 o'.v, .int .i64 o'.k, .slice o'.x.A o'.x.l.length o'.x.c] 59)) := (Below.refl _ _).alloc (Nat.le_refl _) _
    have hw2 := hw1.trans (hba.mono hw1.size)
    have x2 := (x0.below hb1).below hba
    have y2 := Blk.new w1 59 #[.string o'.p, .int .u64 o'.v, .int .i64 o'.k, .slice o'.x.A o'.x.l.length o'.x.c]
    have HC := Lib.hid (entryClone_any o'.p o'.v o'.k o'.x.A o'.x.c o'.x.l _ _ (hob.below hw2).1 hol)
    clear hob HG hb1 hba x0
    go_upto_region 4 with (fail)
    generalize w1.alloc (.cells #[.string o'.p, .int .u64 o'.v, .int .i64 o'.k, .slice o'.x.A o'.x.l.length o'.x.c] 59) = w2 at *
    have p0 := y2.cell 0
    have p1 := y2.cell 1
    have p2 := y2.cell 2
    have p3 := y2.cell 3
    simp only [List.getElem?_toArray, List.getElem?_cons_zero, List.getElem?_cons_succ] at p0 p1 p2 p3
    go_wp2_with fail
    refine HC.out.mono ?_
    rintro e w3 ⟨A3, c3, l3, rfl, hl3, ho3, hb3⟩
    have hw3 := hw2.trans (hb3.mono hw2.size)
    have x3 := x2.below hb3
    have s2 := hw2.size
    have l2 := x2.lt
    have r0 := x3.cell 0
    have r1 := x3.cell 1
    have r2 := x3.cell 2
    have r3 := x3.cell 3
    simp only [List.getElem?_toArray, List.getElem?_cons_zero, List.getElem?_cons_succ] at r0 r1 r2 r3
    have fr := fun o => x3.frozen o
    go_wp2_with fail
    have kR : Fr (fun x => x = w.heap.size) w3 ((((w3.setCell ⟨w.heap.size, 0, none⟩ (.string o'.p)).setCell ⟨w.heap.size, 1, none⟩ (.int .u64 o'.v)).setCell ⟨w.heap.size, 2, none⟩ (.int .i64 o'.k)).setCell ⟨w.heap.size, 3, none⟩ (.slice A3 l3.length c3)) := (((((Fr.refl (fun x => x = w.heap.size) w3).setAt (w.heap.size) _ rfl _).setAt (w.heap.size) _ rfl _).setAt (w.heap.size) _ rfl _).setAt (w.heap.size) _ rfl _)
    have yR := ((((x3.set_ 0 (.string o'.p)).set_ 1 (.int .u64 o'.v)).set_ 2 (.int .i64 o'.k)).set_ 3 (.slice A3 l3.length c3))
    simp only [List.setIfInBounds_toArray, List.set_cons_zero, List.set_cons_succ] at yR
    have hwR : Below w.heap.size w ((((w3.setCell ⟨w.heap.size, 0, none⟩ (.string o'.p)).setCell ⟨w.heap.size, 1, none⟩ (.int .u64 o'.v)).setCell ⟨w.heap.size, 2, none⟩ (.int .i64 o'.k)).setCell ⟨w.heap.size, 3, none⟩ (.slice A3 l3.length c3)) := hw3.trans (kR.below (B := w.heap.size) hw3.size (fun k hk e => by omega))
    generalize ((((w3.setCell ⟨w.heap.size, 0, none⟩ (.string o'.p)).setCell ⟨w.heap.size, 1, none⟩ (.int .u64 o'.v)).setCell ⟨w.heap.size, 2, none⟩ (.int .i64 o'.k)).setCell ⟨w.heap.size, 3, none⟩ (.slice A3 l3.length c3)) = wR at *
    have s0 := yR.cell 0
    have s1 := yR.cell 1
    have s2 := yR.cell 2
    have s3 := yR.cell 3
    simp only [List.getElem?_toArray, List.getElem?_cons_zero, List.getElem?_cons_succ] at s0 s1 s2 s3
    refine bodyPost_ret (v := .agg #[.string o'.p, .int .u64 o'.v, .int .i64 o'.k, .slice A3 l3.length c3]) (by simp [results, Tryz.results55, go_sem, s0, s1, s2, s3]) rfl ?_
    refine ⟨o'.p, o'.v, o'.k, A3, c3, l3, rfl, by show _ ∧ _; rw [HGE.out]; exact ⟨rfl, rfl, rfl, hl3.out⟩, ?_, hwR⟩
    exact own_base (OwB.fr ho3 kR (fun g hg e => by have := (ho3.lt g hg).1; omega)) (fun g hg => by have := (ho3.lt g hg).1; omega)

set_option maxRecDepth 100000 in
set_option maxHeartbeats 400000 in
theorem bookNext_any (bb : Nat) (mo : Option Nat) (L : List (List UInt8 × EV)) (s : Int) (w : World) (h : BookAt w bb mo L s) (hs : 0 ≤ s ∧ s < 18446744073709551616) :
    Calls Tryz.prog 24 #[.pointer (some ⟨bb, 0, none⟩)] w fun e w' => e = .returned (.int .i64 (if 1099511627776 ≤ s then 24 else 0)) ∧ BookAt w' bb mo L (if 1099511627776 ≤ s then s else s + 1) ∧ Fr (fun x => x = bb) w w' := by
  obtain ⟨c0, _⟩ := h.cells
  by_cases hl : 1099511627776 ≤ s
  · have hd : decide (1099511627776 ≤ s) = true := decide_eq_true hl
    rw [if_pos hl, if_pos hl]
    have HB := Lib.hid h
    clear h hl
    go_enter Tryz.func24, Tryz.ntmps24
    go_wp2_with fail
    go_ret
    exact ⟨rfl, HB.out, Fr.refl _ _⟩
  · have hd : decide (1099511627776 ≤ s) = false := decide_eq_false hl
    rw [if_neg hl, if_neg hl]
    have hw := IntWalk.u64_in (s + 1) ⟨by omega, by omega⟩
    have HB := Lib.hid (h.set (s + 1))
    have f0 := h.blk.frozen 0
    clear h
    go_enter Tryz.func24, Tryz.ntmps24
    go_wp2_with fail
    go_ret
    exact ⟨rfl, HB.out, (Fr.refl (fun x => x = bb) w).setAt bb 0 rfl _⟩
theorem bookNext_nil (w : World) : Calls Tryz.prog 24 #[.pointer none] w fun e w' => e = .returned (.int .i64 1) ∧ w = w' := by
  go_enter Tryz.func24, Tryz.ntmps24
  go_wp2_with fail
  go_ret
  exact ⟨rfl, rfl⟩
end Go.Proofs.YtdnljmncdbcgeaaGreat

/- Rows of entries of the call's own, bytes and all; append of one. -/
namespace Go.Proofs.YtdnljmncdbcgeaaGreat
open Go.RowKit

theorem own_apartE {w : World} {base base' : Nat} {e e' : TypeId} {s s' n n' : Nat} {v v' : Value} {xs xs' : List Value} (h : w.ownsRow base e s v n xs) (h' : w.ownsRow base' e' s' v' n' xs') (hne : e ≠ e') : ∀ g, v.ownBlock = some g → v'.ownBlock ≠ some g := by
  rcases h.2 with ⟨rfl, _⟩ | ⟨g', cap, cur, rfl, _, hh, _⟩
  · simp [Value.ownBlock]
  · intro g he
    have e1 : g' = g := by simpa [Value.ownBlock] using he
    subst e1
    have hb : Blk w g' e _ := hh
    exact Blk.own_ne hb h' (fun e => hne e.symm)
def OwE (w : World) (base : Nat) (A : Option Addr) (c : Nat) (M : List EV) : Prop := w.ownsRow base 59 4 (.slice A M.length c) M.length (M.flatMap EV.cells)
theorem entry_info : (Tryz.prog.info? 59).map (fun i => (i.zero, i.size, i.bytes)) = some (some (.agg #[.string ⟨#[]⟩, .int .u64 0, .int .i64 0, .slice none 0 0]), 4, 56) := by kernel_rfl
theorem entry_one (L : List EV) : ∀ u ∈ L.flatMap EV.cells, u.oneCell' = true := by
  intro u hu
  obtain ⟨x, _, hx⟩ := List.mem_flatMap.1 hu
  simp only [EV.cells, List.mem_cons, List.not_mem_nil, or_false] at hx
  rcases hx with rfl | rfl | rfl | rfl <;> rfl
/-- entries, each of the call's own -/
structure EsOwn (w : World) (base : Nat) (A : Option Addr) (c : Nat) (M : List EV) : Prop where
  row : OwE w base A c M
  byt : ∀ x ∈ M, OwB w base (.slice x.x.A x.x.l.length x.x.c) x.x.l
theorem EsOwn.nil (w : World) (base : Nat) : EsOwn w base none 0 [] := ⟨World.ownsRow_nil _ _ _ _, by simp⟩
theorem EsOwn.below {w w' : World} {base : Nat} {A : Option Addr} {c : Nat} {M : List EV} (h : EsOwn w base A c M) (k : Below w.heap.size w w') : EsOwn w' base A c M := ⟨own_below h.row k, fun x hx => own_below (h.byt x hx) k⟩
theorem EsOwn.base {w : World} {base base' : Nat} {A : Option Addr} {c : Nat} {M : List EV} (h : EsOwn w base A c M) (hb : base' ≤ base) : EsOwn w base' A c M :=
  ⟨own_base h.row (fun g hg => Nat.le_trans hb (h.row.lt g hg).1), fun x hx => own_base (h.byt x hx) (fun g hg => Nat.le_trans hb ((h.byt x hx).lt g hg).1)⟩
theorem EsOwn.push {w w' : World} {base : Nat} {A A' : Option Addr} {c c' : Nat} {M : List EV} {y : EV} (h : EsOwn w base A c M) (hy : OwB w base (.slice y.x.A y.x.l.length y.x.c) y.x.l) (hr : OwE w' base A' c' (M ++ [y])) (hb : Below base w w')
    (hk : ∀ k, k < w.heap.size → (Value.slice A M.length c).ownBlock ≠ some k → w'.heap[k]? = w.heap[k]?) : EsOwn w' base A' c' (M ++ [y]) := by
  have hf : Fr (fun k => (Value.slice A M.length c).ownBlock = some k) w w' := ⟨hb.os, hb.tape, hb.output, hb.size, hk⟩
  refine ⟨hr, fun x hx => ?_⟩
  rcases List.mem_append.1 hx with hx | hx
  · exact own_fr (h.byt x hx) hf (own_apartE (h.byt x hx) h.row (by decide))
  · rw [List.mem_singleton.1 hx]
    exact own_fr hy hf (own_apartE hy h.row (by decide))
/-- append of one entry -/
theorem wpList_append_entry {w : World} {ops : Array Oper} {rest : List Oper} {o : Oper} {a : Act} {Q : Exit → Act → World → Prop} (hgd : o.guard = none) (s x : Operand) {t : TypeId} (hu : Tryz.prog.underlying t = some (.slice 59))
    (ho : o.op = .call { callee := .builtin .append, args := #[s, x], argTypes := #[t, t] })
    {base : Nat} {A : Option Addr} {c : Nat} {L : List EV} {y : EV} {g : Nat} (hs : a.eval s = .slice A L.length c) (hown : OwE w base A c L) (hx : a.eval x = .slice (some ⟨g, 0, none⟩) 1 1) (hr : Rd w (fun _ => True) 4 (some ⟨g, 0, none⟩) 1 (EV.cells y))
    (hsum : L.length + 1 ≤ 1099511627776) (hbase : base ≤ w.heap.size)
    (h : ∀ (A' : Option Addr) (c' : Nat) (w' : World), OwE w' base A' c' (L ++ [y]) → Below base w w' → (∀ k, k < w.heap.size → (Value.slice A L.length c).ownBlock ≠ some k → w'.heap[k]? = w.heap[k]?) → wpList Tryz.prog ops Q rest (a.put o.dst (.slice A' (L.length + 1) c')) w') : wpList Tryz.prog ops Q (o :: rest) a w := by
  obtain ⟨i0, hi0, hz0, hz1, hz2⟩ := info_parts entry_info
  refine wpList_append_any w hgd s x _ ho base 59 i0 _ 4 56 hu hi0 hz0 hz1 hz2 rfl (by omega) (.slice A L.length c) L.length (L.flatMap EV.cells) hs hown _ _ 1 1 (EV.cells y) hx hr (fun u hu => entry_one [y] u (by simpa using hu)) (by simp only [maxLen]; omega) (by omega) hbase ?_
  intro v' w' h1 h2 h3
  obtain ⟨A', c', rfl, _⟩ := own_form h1
  refine h A' c' w' ?_ (grown_below h2 hbase (fun g e => (hown.lt g e).1)) (fun k hk hne => h2.block k hk (fun e => hne e.symm))
  unfold OwE
  rw [List.length_append, List.flatMap_append, List.flatMap_cons, List.flatMap_nil, List.append_nil]
  exact h1
end Go.Proofs.YtdnljmncdbcgeaaGreat

/- book.Book: Entries. -/
namespace Go.Proofs.YtdnljmncdbcgeaaGreat
open Go.RowKit

/-- an entry, plainly -/
def EV.pl (o : EV) : List UInt8 × Int × Int × List UInt8 := (tl o.p, o.v, o.k, o.x.l)
theorem txt_atE {w : World} {base : Nat} {A : Option Addr} {c : Nat} {l : List (List UInt8)} {n : Nat} (hn : n = l.length) (h : w.ownsRow base 9 1 (.slice A n c) n (l.map stv)) {i : Nat} (hi : i < l.length) :
    ∃ b off, A = some ⟨b, off, none⟩ ∧ b < w.heap.size ∧ w.cell? ⟨b, off + i, none⟩ = some (stv l[i]) := by
  have hr : Rd w (fun _ => True) 1 A n (l.map stv) := Rd.of_own h (fun _ _ _ => trivial)
  obtain ⟨b, off, hA, _, hb, hc⟩ := hr.2 (by omega)
  exact ⟨b, off, hA, hb, hc i _ (by rw [List.getElem?_map, List.getElem?_eq_getElem hi]; rfl)⟩
set_option maxRecDepth 100000 in
set_option maxHeartbeats 1000000 in
theorem bookEntries_any (bb : Nat) (mo : Option Nat) (L : List (List UInt8 × EV)) (s : Int) (w : World) (h : BookAt w bb mo L s) :
    Calls Tryz.prog 33 #[.pointer (some ⟨bb, 0, none⟩)] w fun e w' => ∃ (A : Option Addr) (c : Nat) (M : List EV), e = .returned (.slice A M.length c) ∧ Hid (M.map EV.pl = plainB L) ∧ EsOwn w' w.heap.size A c M ∧ Below w.heap.size w w' := by
  have HP := Lib.hid (bookPaths_any bb mo L s w h)
  have HB := Lib.hid h
  have HK := Lib.hid (fun x (hx : x ∈ L) => h.keys hx)
  have HS := Lib.hid h.sort
  have HPL : Hid ((L.map fun x => x.2.pl) = plainB L) := Lib.hid h.pl
  have hll := h.len
  clear h
  go_enter Tryz.func33, Tryz.ntmps33
  go_wp2_with fail
  refine HP.out.mono ?_
  rintro e w1 ⟨A1, c1, rfl, ho, hb1⟩
  have HO := Lib.hid ho
  clear HP ho
  go_wp2_with fail
  go_loopw [2, 8] (fun ov iv wr => ∃ (i : Nat) (A : Option Addr) (c : Nat) (M : List EV), i ≤ L.length ∧ iv = .int .i64 (i : Int) ∧ ov = .slice A M.length c ∧ Hid (M.map EV.pl = (L.take i).map fun x => x.2.pl) ∧ M.length = i ∧ EsOwn wr w1.heap.size A c M ∧ Below w1.heap.size w1 wr) (fun _ iv _ => L.length - (intOf iv).toNat)
  case atStart => exact ⟨0, none, 0, [], Nat.zero_le _, rfl, rfl, rfl, rfl, EsOwn.nil _ _, Below.refl _ _⟩
  case round =>
    obtain ⟨i, A, c, M, hi, rfl, rfl, hM, hMi, hO, hb⟩ := hrel
    have hw1r := hb1.trans (hb.mono hb1.size)
    by_cases hlt : i < L.length
    · have hkl : (keysR L).length = L.length := keys_len L
      obtain ⟨b, off, hA, hbb, c0⟩ := txt_atE hkl.symm (own_below HO.out hb) (i := i) (by rw [hkl]; exact hlt)
      have hli : (keysR L)[i]'(by rw [hkl]; exact hlt) = L[i].1 := by simp [keysR]
      rw [hli] at c0
      have hm := List.getElem_mem hlt
      have hge : gotE L L[i].1 = L[i].2 := by unfold gotE; rw [HS.out.get hm]; rfl
      have HG := bookGet_any bb mo L s L[i].1 wr (HB.out.below hw1r) (by have := HK.out _ hm; simp only [maxLen]; omega)
      rw [hge] at HG
      have hps : (L.take (i + 1)).map (fun x => x.2.pl) = (L.take i).map (fun x => x.2.pl) ++ [L[i].2.pl] := by rw [List.take_succ_eq_append_getElem hlt, List.map_append]; rfl
      subst hA
      obtain ⟨x, hx⟩ : ∃ x, x = L[i] := ⟨_, rfl⟩
      rw [← hx] at c0 hps HG
      simp only [stv] at c0
      have HPS := Lib.hid hps
      have hMe := Lib.hid hMi
      replace HG := Lib.hid HG
      clear hps hge hx hli hm hkl
      go_wp2_with fail
      refine HG.out.mono ?_
      rintro e w2 ⟨q, v, k, A2, c2, l2, rfl, he, ho2, hb2⟩
      obtain ⟨y, hy⟩ : ∃ y : EV, y = ⟨q, v, k, ⟨A2, c2, l2⟩⟩ := ⟨_, rfl⟩
      have hw2 := hb.trans (hb2.mono hb.size)
      have ho3 : OwB w2 w1.heap.size (.slice y.x.A y.x.l.length y.x.c) y.x.l := by
        rw [hy]
        exact own_base ho2 (fun g hg => Nat.le_trans hb.size (ho2.lt g hg).1)
      have hpy : y.pl = x.2.pl := by
        obtain ⟨e1, e2, e3, e4⟩ := he.out
        rw [hy]
        unfold EV.pl
        dsimp only
        rw [e1, e2, e3, e4]
      have hba : Below w1.heap.size w1 (w2.alloc (.cells #[.string q, .int .u64 v, .int .i64 k, .slice A2 l2.length c2] 59)) := hw2.alloc hw2.size _
      have hal : Below w2.heap.size w2 (w2.alloc (.cells #[.string q, .int .u64 v, .int .i64 k, .slice A2 l2.length c2] 59)) := (Below.refl _ w2).alloc (Nat.le_refl _) _
      have hO3 := Lib.hid ((hO.below hb2).below hal)
      have ho4 := Lib.hid (own_below ho3 hal)
      have ra : Hid (Rd (w2.alloc (.cells #[.string q, .int .u64 v, .int .i64 k, .slice A2 l2.length c2] 59)) (fun _ => True) 4 (some ⟨w2.heap.size, 0, none⟩) 1 (EV.cells y)) := (Rd.lit (w := w2) (t := 59) (size := 4) (n := 1) (xs := EV.cells y) (by rw [hy]; rfl) rfl rfl).mono (fun _ _ _ => trivial)
      have HN : Hid ((M ++ [y]).map EV.pl = (L.take (i + 1)).map fun x => x.2.pl) := by
        show _ = _
        rw [List.map_append, List.map_cons, List.map_nil, hpy, HPS.out, hM.out]
      have hlb := Lib.hid (show M.length + 1 ≤ 1099511627776 by omega)
      clear hO ho2 ho3 hal hb2 he hpy hy HPS HG hM hb c0 hMi
      go_wp2_with (at_builtin; refine wpList_append_entry rfl (.tmp 12) (.tmp 16) (t := 45) rfl rfl rfl hO3.out.row rfl ra.out hlb.out hba.size ?_; intro A5 c5 w5 ho5 hb5 hk5)
      have hb6 := hba.trans hb5
      have hO5 := hO3.out.push ho4.out ho5 hb5 hk5
      have hl5 : (M ++ [y]).length = i + 1 := by rw [List.length_append, hMe.out]; rfl
      go_roundw
      case rel => exact ⟨i + 1, A5, c5, M ++ [y], hlt, by go_num, by simp, HN, hl5, hO5, hb6⟩
      case measure => simp [intOf]; omega
    · have e : i = L.length := by omega
      subst e
      have HN : Hid (M.map EV.pl = plainB L) := by
        show _ = _
        rw [hM.out, List.take_length, HPL.out]
      clear hM hMi
      go_wp2_with fail
      go_ret
      exact ⟨A, c, M, rfl, HN.out, hO.base hb1.size, hw1r⟩
end Go.Proofs.YtdnljmncdbcgeaaGreat

/- tenderref22: the document's book as a value; Get. -/
namespace Go.Proofs.YtdnljmncdbcgeaaGreat
open Go.RowKit

/-- a row of entries, to be read -/
structure EsR (w : World) (A : Option Addr) (M : List EV) : Prop where
  rd : Rd w (fun _ => True) 4 A M.length (M.flatMap EV.cells)
  ok : ∀ x ∈ M, x.x.ok w (fun _ => True)
  len : M.length ≤ 1000000
theorem EsR.below {w w' : World} {A : Option Addr} {M : List EV} (h : EsR w A M) (k : Below w.heap.size w w') : EsR w' A M := ⟨h.rd.below k, fun x hx => (h.ok x hx).below k, h.len⟩
theorem ev_cells_len (x : EV) : x.cells.length = 4 := rfl
theorem EsR.at_ {w : World} {A : Option Addr} {M : List EV} {i : Nat} (h : EsR w A M) (hi : i < M.length) :
    ∃ b off, A = some ⟨b, off, none⟩ ∧ b < w.heap.size ∧ w.cell? ⟨b, off + i * 4, none⟩ = some (.string M[i].p) ∧ w.cell? ⟨b, off + i * 4 + 1, none⟩ = some (.int .u64 M[i].v) ∧ w.cell? ⟨b, off + i * 4 + 2, none⟩ = some (.int .i64 M[i].k) ∧ w.cell? ⟨b, off + i * 4 + 3, none⟩ = some (.slice M[i].x.A M[i].x.l.length M[i].x.c) := by
  obtain ⟨b, off, hA, _, hb, hc⟩ := h.rd.2 (by omega)
  have hg : ∀ j, j < 4 → (M.flatMap EV.cells)[i * 4 + j]? = (EV.cells M[i])[j]? := fun j hj => flat_get (k := 4) ev_cells_len M i j hi hj
  refine ⟨b, off, hA, hb, hc _ _ (hg 0 (by omega)), ?_, ?_, ?_⟩
  · rw [Nat.add_assoc]; exact hc _ _ (hg 1 (by omega))
  · rw [Nat.add_assoc]; exact hc _ _ (hg 2 (by omega))
  · rw [Nat.add_assoc]; exact hc _ _ (hg 3 (by omega))
/-- the first entry of a path, or one of nothing -/
def findE (p : ByteArray) : List EV → EV
  | [] => ⟨p, 0, 0, ⟨none, 0, []⟩⟩
  | x :: l => if x.p = p then x else findE p l
theorem findE_cons (p : ByteArray) (x : EV) (l : List EV) : findE p (x :: l) = if x.p = p then x else findE p l := rfl

set_option maxRecDepth 100000 in
set_option maxHeartbeats 1000000 in
theorem refGet22_any (A : Option Addr) (c : Nat) (M : List EV) (s : Int) (p : ByteArray) (w : World) (h : EsR w A M) :
    Calls Tryz.prog 90 #[.agg #[.int .u64 s, .slice A M.length c], .string p] w fun e w' => (∃ o : EV, e = .returned (.agg #[.string o.p, .int .u64 o.v, .int .i64 o.k, .slice o.x.A o.x.l.length o.x.c]) ∧ Hid (o = findE p M)) ∧ Below w.heap.size w w' := by
  have hw2 : Below w.heap.size w ((w.alloc (.cells #[.int .u64 s, .slice A M.length c] 50)).alloc (.cells #[.string ⟨#[]⟩, .int .u64 0, .int .i64 0, .slice none 0 0] 59)) := ((Below.refl _ _).alloc (Nat.le_refl _) _).alloc (by simp) _
  have x0 : Blk ((w.alloc (.cells #[.int .u64 s, .slice A M.length c] 50)).alloc (.cells #[.string ⟨#[]⟩, .int .u64 0, .int .i64 0, .slice none 0 0] 59)) w.heap.size 50 #[.int .u64 s, .slice A M.length c] := (Blk.new w 50 #[.int .u64 s, .slice A M.length c]).below ((Below.refl _ _).alloc (Nat.le_refl _) _)
  have x1 : Blk ((w.alloc (.cells #[.int .u64 s, .slice A M.length c] 50)).alloc (.cells #[.string ⟨#[]⟩, .int .u64 0, .int .i64 0, .slice none 0 0] 59)) (w.heap.size + 1) 59 #[.string ⟨#[]⟩, .int .u64 0, .int .i64 0, .slice none 0 0] := by
    have := Blk.new (w.alloc (.cells #[.int .u64 s, .slice A M.length c] 50)) 59 #[.string ⟨#[]⟩, .int .u64 0, .int .i64 0, .slice none 0 0]
    rwa [show (w.alloc (.cells #[.int .u64 s, .slice A M.length c] 50)).heap.size = w.heap.size + 1 by simp] at this
  have HF := Lib.hid (h.below hw2)
  have hlen := h.len
  clear h
  go_enter Tryz.func90, Tryz.ntmps90
  go_upto_region 1 with (fail)
  generalize ((w.alloc (.cells #[.int .u64 s, .slice A M.length c] 50)).alloc (.cells #[.string ⟨#[]⟩, .int .u64 0, .int .i64 0, .slice none 0 0] 59)) = w2 at *
  have b1 := x0.cell 1
  simp only [List.getElem?_toArray, List.getElem?_cons_zero, List.getElem?_cons_succ] at b1
  go_wp2_with fail
  go_loopw [5] (fun iv wr => ∃ i : Nat, i ≤ M.length ∧ iv = .int .i64 (i : Int) ∧ Hid (findE p M = findE p (M.drop i)) ∧ wr = w2) (fun iv _ => M.length - (intOf iv).toNat)
  case atStart => exact ⟨0, Nat.zero_le _, rfl, rfl, rfl⟩
  case round =>
    obtain ⟨i, hi, rfl, hg, rfl⟩ := hrel
    by_cases hlt : i < M.length
    · obtain ⟨b, off, hA, hbb, c0, c1, c2, c3⟩ := HF.out.at_ hlt
      have hd : M.drop i = M[i] :: M.drop (i + 1) := List.drop_eq_getElem_cons hlt
      have hg2 := hg.out
      rw [hd, findE_cons] at hg2
      generalize M[i] = o at *
      subst hA
      by_cases he : o.p = p
      · rw [if_pos he] at hg2
        have HG := Lib.hid (show o = findE p M from hg2.symm)
        have heq := eq_yes he
        have r0 := x1.cell 0
        have r1 := x1.cell 1
        have r2 := x1.cell 2
        have r3 := x1.cell 3
        simp only [List.getElem?_toArray, List.getElem?_cons_zero, List.getElem?_cons_succ] at r0 r1 r2 r3
        have fr := fun o => x1.frozen o
        clear hd hg2 hg he
        go_wp2_with fail
        have kR : Fr (fun x => x = w.heap.size + 1) wr ((((wr.setCell ⟨w.heap.size + 1, 0, none⟩ (.string o.p)).setCell ⟨w.heap.size + 1, 1, none⟩ (.int .u64 o.v)).setCell ⟨w.heap.size + 1, 2, none⟩ (.int .i64 o.k)).setCell ⟨w.heap.size + 1, 3, none⟩ (.slice o.x.A o.x.l.length o.x.c)) := (((((Fr.refl (fun x => x = w.heap.size + 1) wr).setAt (w.heap.size + 1) _ rfl _).setAt (w.heap.size + 1) _ rfl _).setAt (w.heap.size + 1) _ rfl _).setAt (w.heap.size + 1) _ rfl _)
        have yR := ((((x1.set_ 0 (.string o.p)).set_ 1 (.int .u64 o.v)).set_ 2 (.int .i64 o.k)).set_ 3 (.slice o.x.A o.x.l.length o.x.c))
        simp only [List.setIfInBounds_toArray, List.set_cons_zero, List.set_cons_succ] at yR
        have hwR : Below w.heap.size w ((((wr.setCell ⟨w.heap.size + 1, 0, none⟩ (.string o.p)).setCell ⟨w.heap.size + 1, 1, none⟩ (.int .u64 o.v)).setCell ⟨w.heap.size + 1, 2, none⟩ (.int .i64 o.k)).setCell ⟨w.heap.size + 1, 3, none⟩ (.slice o.x.A o.x.l.length o.x.c)) := hw2.trans (kR.below (B := w.heap.size) hw2.size (fun k hk e => by omega))
        generalize ((((wr.setCell ⟨w.heap.size + 1, 0, none⟩ (.string o.p)).setCell ⟨w.heap.size + 1, 1, none⟩ (.int .u64 o.v)).setCell ⟨w.heap.size + 1, 2, none⟩ (.int .i64 o.k)).setCell ⟨w.heap.size + 1, 3, none⟩ (.slice o.x.A o.x.l.length o.x.c)) = wR at *
        have s0 := yR.cell 0
        have s1 := yR.cell 1
        have s2 := yR.cell 2
        have s3 := yR.cell 3
        simp only [List.getElem?_toArray, List.getElem?_cons_zero, List.getElem?_cons_succ] at s0 s1 s2 s3
        refine bodyPost_ret (v := .agg #[.string o.p, .int .u64 o.v, .int .i64 o.k, .slice o.x.A o.x.l.length o.x.c]) (by simp [results, Tryz.results90, go_sem, s0, s1, s2, s3]) rfl ?_
        exact ⟨⟨o, rfl, HG.out⟩, hwR⟩
      · rw [if_neg he] at hg2
        have HG : Hid (findE p M = findE p (M.drop (i + 1))) := Lib.hid hg2
        have heq := eq_no he
        clear hd hg2 hg he c1 c2 c3
        go_wp2_with fail
        go_roundw
        case rel => exact ⟨i + 1, hlt, by go_num, HG.out, trivial⟩
        case measure => simp [intOf]; omega
    · have e : i = M.length := by omega
      subst e
      have HG : Hid (⟨p, 0, 0, ⟨none, 0, []⟩⟩ = findE p M) := Lib.hid (by rw [hg.out, List.drop_length]; rfl)
      have r0 := x1.cell 0
      have r1 := x1.cell 1
      have r2 := x1.cell 2
      have r3 := x1.cell 3
      simp only [List.getElem?_toArray, List.getElem?_cons_zero, List.getElem?_cons_succ] at r0 r1 r2 r3
      have fr := fun o => x1.frozen o
      clear hg
      go_wp2_with fail
      have kR : Fr (fun x => x = w.heap.size + 1) wr ((((wr.setCell ⟨w.heap.size + 1, 0, none⟩ (.string p)).setCell ⟨w.heap.size + 1, 1, none⟩ (.int .u64 0)).setCell ⟨w.heap.size + 1, 2, none⟩ (.int .i64 0)).setCell ⟨w.heap.size + 1, 3, none⟩ (.slice none 0 0)) := (((((Fr.refl (fun x => x = w.heap.size + 1) wr).setAt (w.heap.size + 1) _ rfl _).setAt (w.heap.size + 1) _ rfl _).setAt (w.heap.size + 1) _ rfl _).setAt (w.heap.size + 1) _ rfl _)
      have yR := ((((x1.set_ 0 (.string p)).set_ 1 (.int .u64 0)).set_ 2 (.int .i64 0)).set_ 3 (.slice none 0 0))
      simp only [List.setIfInBounds_toArray, List.set_cons_zero, List.set_cons_succ] at yR
      have hwR : Below w.heap.size w ((((wr.setCell ⟨w.heap.size + 1, 0, none⟩ (.string p)).setCell ⟨w.heap.size + 1, 1, none⟩ (.int .u64 0)).setCell ⟨w.heap.size + 1, 2, none⟩ (.int .i64 0)).setCell ⟨w.heap.size + 1, 3, none⟩ (.slice none 0 0)) := hw2.trans (kR.below (B := w.heap.size) hw2.size (fun k hk e => by omega))
      generalize ((((wr.setCell ⟨w.heap.size + 1, 0, none⟩ (.string p)).setCell ⟨w.heap.size + 1, 1, none⟩ (.int .u64 0)).setCell ⟨w.heap.size + 1, 2, none⟩ (.int .i64 0)).setCell ⟨w.heap.size + 1, 3, none⟩ (.slice none 0 0)) = wR at *
      have s0 := yR.cell 0
      have s1 := yR.cell 1
      have s2 := yR.cell 2
      have s3 := yR.cell 3
      simp only [List.getElem?_toArray, List.getElem?_cons_zero, List.getElem?_cons_succ] at s0 s1 s2 s3
      refine bodyPost_ret (v := .agg #[.string p, .int .u64 0, .int .i64 0, .slice none 0 0]) (by simp [results, Tryz.results90, go_sem, s0, s1, s2, s3]) rfl ?_
      exact ⟨⟨_, rfl, HG.out⟩, hwR⟩

end Go.Proofs.YtdnljmncdbcgeaaGreat

/- watch: Judge. -/
namespace Go.Proofs.YtdnljmncdbcgeaaGreat
open Go.RowKit Go.Maps

/-- of which entries nothing was ever common -/
def jS (H K : List (List (List UInt8 × LP))) (T : List (List UInt8 × EP)) : List (List UInt8) := (T.filter fun y => !someG (bothAt H K y.1 y.2.2) H.length 0 (H.length : Int)).map (·.1)
def neverE (H K : List (List (List UInt8 × LP))) (x : EV) : Bool := !someG (bothAt H K x.pl.1 x.pl.2.2) H.length 0 (H.length : Int)
theorem jS_map (H K : List (List (List UInt8 × LP))) (M : List EV) : (M.filter (neverE H K)).map (fun x => x.pl.1) = jS H K (M.map EV.pl) := by
  unfold jS
  rw [List.filter_map, List.map_map]
  rfl

set_option maxRecDepth 100000 in
set_option maxHeartbeats 1000000 in
theorem judgeC_any (col : Nat → Nat) (gb : Nat) (H K : List (List (List UInt8 × LP))) (x : EV) (xg : Nat) (Z : Nat → Prop) (w : World) (h : LogAt w col gb H K) (hH : H.length ≤ 300) (hg : Blk w xg 30 #[.pointer (some ⟨gb, 0, none⟩)]) (hy : By w Z x.x.A x.x.l) (hp : x.p.size ≤ 1048576) :
    Calls Tryz.prog 52 #[.agg #[.string x.p, .int .u64 x.v, .int .i64 x.k, .slice x.x.A x.x.l.length x.x.c], .pointer (some ⟨xg, 0, none⟩)] w fun e w' => e = .returned (.bool (neverE H K x)) ∧ Below w.heap.size w w' := by
  have hba : Below w.heap.size w (w.alloc (.cells #[.string x.p, .int .u64 x.v, .int .i64 x.k, .slice x.x.A x.x.l.length x.x.c] 59)) := (Below.refl _ _).alloc (Nat.le_refl _) _
  have hz := Blk.new w 59 #[.string x.p, .int .u64 x.v, .int .i64 x.k, .slice x.x.A x.x.l.length x.x.c]
  obtain ⟨v0, m0, v1, m1, L0, R0, L1, R1, h1, _⟩ := h.at_
  have HN := Lib.hid h1
  have HC := Lib.hid (fun W (hW : Below w.heap.size w W) => common_any col gb H K (tl x.p) x.k x.x.A x.x.c x.x.l Z 0 (H.length : Int) W (h.below hW) (by rw [tl_len]; exact hp) hH (hy.below hW))
  obtain ⟨V, hV⟩ : ∃ V, V = someG (bothAt H K (tl x.p) (x.k, x.x.l)) H.length 0 (H.length : Int) := ⟨_, rfl⟩
  rw [← hV] at HC
  have HV : Hid (neverE H K x = !V) := Lib.hid (by unfold neverE; rw [hV]; rfl)
  rw [show (⟨⟨tl x.p⟩⟩ : ByteArray) = x.p from rfl] at HC
  obtain ⟨zb, hzb⟩ : ∃ zb, zb = w.heap.size := ⟨_, rfl⟩
  rw [← hzb] at hz
  clear h h1 hV hy
  go_enter Tryz.func52, Tryz.ntmps52
  go_upto_region 1 with (fail)
  rw [← hzb]
  clear hzb
  generalize w.alloc (.cells #[.string x.p, .int .u64 x.v, .int .i64 x.k, .slice x.x.A x.x.l.length x.x.c] 59) = w1 at *
  refine wp_region_b 11 (by kernel_rfl) (by kernel_rfl) ?_
  simp only [List.take_succ_cons, List.take_zero, List.drop_succ_cons, List.drop_zero]
  refine lb_val (by kernel_rfl) ⟨_, (by (intro w' hC; (have g0 := (hg.below (hba.trans (hC.mono hba.size))).cell 0; simp only [List.getElem?_toArray, List.getElem?_cons_zero, List.getElem?_cons_succ] at g0); clear hC; (try go_simp); (try with_reducible rfl); done)), _, (by (simp only [Act.put, List.setIfInBounds_toArray, List.set_cons_zero, List.set_cons_succ]; rfl)), ?_⟩
  refine lb_val (by kernel_rfl) ⟨_, (by (intro w' hC; clear hC; (try go_simp); (try with_reducible rfl); done)), _, (by (simp only [Act.put, List.setIfInBounds_toArray, List.set_cons_zero, List.set_cons_succ]; rfl)), ?_⟩
  refine lb_val (by kernel_rfl) ⟨_, (by (intro w' hC; (have y0 := (hz.below hC).cell 0; have y2 := (hz.below hC).cell 2; have y3 := (hz.below hC).cell 3; simp only [List.getElem?_toArray, List.getElem?_cons_zero, List.getElem?_cons_succ] at y0 y2 y3); clear hC; (try go_simp); (try with_reducible rfl); done)), _, (by (simp only [Act.put, List.setIfInBounds_toArray, List.set_cons_zero, List.set_cons_succ]; rfl)), ?_⟩
  refine lb_val (by kernel_rfl) ⟨_, (by (intro w' hC; clear hC; (try go_simp); (try with_reducible rfl); done)), _, (by (simp only [Act.put, List.setIfInBounds_toArray, List.set_cons_zero, List.set_cons_succ]; rfl)), ?_⟩
  refine lb_val (by kernel_rfl) ⟨_, (by (intro w' hC; (have y0 := (hz.below hC).cell 0; have y2 := (hz.below hC).cell 2; have y3 := (hz.below hC).cell 3; simp only [List.getElem?_toArray, List.getElem?_cons_zero, List.getElem?_cons_succ] at y0 y2 y3); clear hC; (try go_simp); (try with_reducible rfl); done)), _, (by (simp only [Act.put, List.setIfInBounds_toArray, List.set_cons_zero, List.set_cons_succ]; rfl)), ?_⟩
  refine lb_val (by kernel_rfl) ⟨_, (by (intro w' hC; (have g0 := (hg.below (hba.trans (hC.mono hba.size))).cell 0; simp only [List.getElem?_toArray, List.getElem?_cons_zero, List.getElem?_cons_succ] at g0); clear hC; (try go_simp); (try with_reducible rfl); done)), _, (by (simp only [Act.put, List.setIfInBounds_toArray, List.set_cons_zero, List.set_cons_succ]; rfl)), ?_⟩
  refine lb_val (by kernel_rfl) ⟨_, (by (intro w' hC; clear hC; (try go_simp); (try with_reducible rfl); done)), _, (by (simp only [Act.put, List.setIfInBounds_toArray, List.set_cons_zero, List.set_cons_succ]; rfl)), ?_⟩
  refine lb_val (by kernel_rfl) ⟨_, (by (intro w' hC; clear hC; (try go_simp); (try with_reducible rfl); done)), _, (by (simp only [Act.put, List.setIfInBounds_toArray, List.set_cons_zero, List.set_cons_succ]; rfl)), ?_⟩
  refine lb_val (by kernel_rfl) ⟨_, (by (intro w' hC; (have n0 := (HN.out.below (hba.trans (hC.mono hba.size))).cell 0; simp only [List.getElem?_toArray, List.getElem?_cons_zero, List.getElem?_cons_succ] at n0); clear hC; (try go_simp); (try with_reducible rfl); done)), _, (by (simp only [Act.put, List.setIfInBounds_toArray, List.set_cons_zero, List.set_cons_succ]; rfl)), ?_⟩
  refine lb_call (by kernel_rfl) (fun w' hC => HC.out w' (hba.trans (hC.mono hba.size))) (by (intro w'; go_simp; done)) ⟨_, (by (simp only [Act.put, List.setIfInBounds_toArray, List.set_cons_zero, List.set_cons_succ]; rfl)), ?_⟩
  refine lb_val (by kernel_rfl) ⟨_, (by (intro w' hC; clear hC; (try go_simp); (try with_reducible rfl); done)), _, (by (simp only [Act.put, List.setIfInBounds_toArray, List.set_cons_zero, List.set_cons_succ]; rfl)), ?_⟩
  refine .nil ?_
  intro w2 hb2
  have hw2 := hba.trans (hb2.mono hba.size)
  go_wp2_with fail
  go_ret
  exact ⟨by rw [HV.out]; rfl, hw2⟩
set_option maxHeartbeats 400000 in
theorem clip_any (A : Option Addr) (c : Nat) (l : List (List UInt8)) (w : World) (h : Rd w (fun _ => True) 1 A l.length (l.map stv)) (hn : l.length ≤ c) (hc : c ≤ maxLen) :
    Calls Tryz.prog 53 #[.slice A l.length c] w fun e w' => (∃ (A' : Option Addr) (c' : Nat), e = .returned (.slice A' l.length c') ∧ Rd w' (fun _ => True) 1 A' l.length (l.map stv)) ∧ Below w.heap.size w w' := by
  rcases A with _ | a
  · have hl : l = [] := by
      rcases l with _ | ⟨x, l⟩
      · rfl
      · obtain ⟨b, off, e, _⟩ := h.2 (by simp); cases e
    subst hl
    go_enter Tryz.func53, Tryz.ntmps53
    go_wp2_with fail
    go_ret
    exact ⟨⟨none, 0, rfl, Rd.nil⟩, Below.refl _ _⟩
  · have HR := Lib.hid h
    generalize l.length = n at *
    go_enter Tryz.func53, Tryz.ntmps53
    go_wp2_with fail
    go_ret
    exact ⟨⟨some a, n, rfl, HR.out⟩, Below.refl _ _⟩
set_option maxRecDepth 100000 in
set_option maxHeartbeats 2000000 in
theorem judge_any (col : Nat → Nat) (gb : Nat) (H K : List (List (List UInt8 × LP))) (bb : Nat) (mo : Option Nat) (L : List (List UInt8 × EV)) (s : Int) (w : World) (h : LogAt w col gb H K) (hH : H.length ≤ 300) (hB : BookAt w bb mo L s) (hps : ∀ y ∈ plainB L, y.1.length ≤ 1048576) (hll : (plainB L).length ≤ 100000) :
    Calls Tryz.prog 21 #[.pointer (some ⟨gb, 0, none⟩), .pointer (some ⟨bb, 0, none⟩)] w fun e w' => (∃ (A : Option Addr) (c : Nat) (l : List (List UInt8)), e = .returned (.slice A l.length c) ∧ Hid (l = jS H K (plainB L)) ∧ Rd w' (fun _ => True) 1 A l.length (l.map stv)) ∧ Below w.heap.size w w' := by
  have hba : Below w.heap.size w (w.alloc (.cells #[.pointer (some ⟨gb, 0, none⟩)] 30)) := (Below.refl _ _).alloc (Nat.le_refl _) _
  have hg := Blk.new w 30 #[.pointer (some ⟨gb, 0, none⟩)]
  have HL := Lib.hid (h.below hba)
  have HB := Lib.hid (bookEntries_any bb mo L s _ (hB.below hba))
  have HPS := Lib.hid hps
  obtain ⟨J, hJ⟩ : ∃ J, J = jS H K (plainB L) := ⟨_, rfl⟩
  rw [← hJ]
  have HJ := Lib.hid hJ
  obtain ⟨xg, hxg⟩ : ∃ xg, xg = w.heap.size := ⟨_, rfl⟩
  rw [← hxg] at hg
  clear h hB hps hJ
  go_enter Tryz.func21, Tryz.ntmps21
  go_upto_region 1 with (fail)
  rw [← hxg]
  clear hxg
  generalize w.alloc (.cells #[.pointer (some ⟨gb, 0, none⟩)] 30) = w0 at *
  have g0 := hg.cell 0
  simp only [List.getElem?_toArray, List.getElem?_cons_zero, List.getElem?_cons_succ] at g0
  go_wp2_with fail
  refine HB.out.mono ?_
  rintro e w1 ⟨EA, ec, M, rfl, hM, hE, hb1⟩
  have hw1 := hba.trans (hb1.mono hba.size)
  have HE : Hid (∀ W, Below w1.heap.size w1 W → EsR W EA M) := Lib.hid (fun W hW => by
    have hE2 := hE.below hW
    exact ⟨Rd.of_own hE2.row (fun _ _ _ => trivial), fun x hx => by
      obtain ⟨A', c', e, h2, h3, h4⟩ := OwB.form (hE2.byt x hx)
      injection e with e1 e2 e3
      subst e1 e3
      exact ⟨(hE2.byt x hx).rd.mono (fun _ _ _ => trivial), h2, h3⟩, by
      have h1 := congrArg List.length hM.out
      rw [List.length_map] at h1
      omega⟩)
  have hMl : M.length ≤ 100000 := by
    have h1 := congrArg List.length hM.out
    rw [List.length_map] at h1
    omega
  have HMP : Hid (∀ x ∈ M, x.p.size ≤ 1048576) := Lib.hid (fun x hx => by
    have h1 := HPS.out x.pl (by rw [← hM.out]; exact List.mem_map.2 ⟨x, hx, rfl⟩)
    have h2 : x.pl.1.length = x.p.size := tl_len x.p
    omega)
  have HJM : Hid ((M.filter (neverE H K)).map (fun x => x.pl.1) = J) := Lib.hid (by rw [jS_map, hM.out, HJ.out])
  have HG := Lib.hid (hg.below hb1)
  have HL1 := Lib.hid (HL.out.below hb1)
  clear hE hM g0 hg HB HL
  go_wp2_with fail
  go_loopw [4, 14] (fun ov iv wr => ∃ (i : Nat) (A : Option Addr) (c : Nat) (l' : List (List UInt8)), i ≤ M.length ∧ iv = .int .i64 (i : Int) ∧ ov = .slice A l'.length c ∧ Hid (l' = ((M.take i).filter (neverE H K)).map (fun x => x.pl.1)) ∧ wr.ownsRow w1.heap.size 9 1 (.slice A l'.length c) l'.length (l'.map stv) ∧ Below w1.heap.size w1 wr) (fun _ iv _ => M.length - (intOf iv).toNat)
  case atStart => exact ⟨0, none, 0, [], Nat.zero_le _, rfl, rfl, Lib.hid rfl, World.ownsRow_nil _ _ _ _, Below.refl _ _⟩
  case round =>
    obtain ⟨i, A, c, l', hi, rfl, rfl, hl', hown, hb⟩ := hrel
    have hln : l'.length ≤ i := by
      rw [hl'.out, List.length_map]
      have h1 := List.length_filter_le (neverE H K) (M.take i)
      rw [List.length_take] at h1
      omega
    by_cases hlt : i < M.length
    · have hER := HE.out wr hb
      obtain ⟨b, off, rfl, hbb, c0, c1, c2, c3⟩ := hER.at_ hlt
      obtain ⟨x, hx⟩ : ∃ x, x = M[i] := ⟨_, rfl⟩
      have hxm : x ∈ M := by rw [hx]; exact List.getElem_mem hlt
      have hxy := hER.ok x hxm
      have hxp := HMP.out x hxm
      have HST : Hid (((M.take (i + 1)).filter (neverE H K)).map (fun x => x.pl.1) = l' ++ (if neverE H K x = true then [x.pl.1] else [])) := Lib.hid (by
        rw [List.take_succ_eq_append_getElem hlt, List.filter_append, List.map_append, ← hl'.out, ← hx, List.filter_cons]
        cases neverE H K x <;> rfl)
      rw [← hx] at c0 c1 c2 c3
      have hba2 : Below wr.heap.size wr (wr.alloc (.cells #[.string x.p, .int .u64 x.v, .int .i64 x.k, .slice x.x.A x.x.l.length x.x.c] 59)) := (Below.refl _ _).alloc (Nat.le_refl _) _
      have hz := Blk.new wr 59 #[.string x.p, .int .u64 x.v, .int .i64 x.k, .slice x.x.A x.x.l.length x.x.c]
      have hr2 := hb.trans (hba2.mono hb.size)
      have HO2 := Lib.hid (own_below hown hba2)
      have HY2 := Lib.hid (hxy.1.below hba2)
      clear hx hxm hER hxy hown hl'
      go_upto_region 7 with (fail)
      obtain ⟨zb, hzb⟩ : ∃ zb, zb = wr.heap.size := ⟨_, rfl⟩
      rw [← hzb] at hz ⊢
      clear hzb hba2
      generalize wr.alloc (.cells #[.string x.p, .int .u64 x.v, .int .i64 x.k, .slice x.x.A x.x.l.length x.x.c] 59) = w2 at *
      have z0 := hz.cell 0
      have z1 := hz.cell 1
      have z2 := hz.cell 2
      have z3 := hz.cell 3
      simp only [List.getElem?_toArray, List.getElem?_cons_zero, List.getElem?_cons_succ] at z0 z1 z2 z3
      clear c0 c1 c2 c3
      go_wp2_with fail
      refine (judgeC_any col gb H K x xg _ w2 (HL1.out.below hr2) hH (HG.out.below hr2) HY2.out hxp).mono ?_
      rintro e w3 ⟨rfl, hb3⟩
      have hr3 := hr2.trans (hb3.mono hr2.size)
      have hz3 := hz.below hb3
      have HO3 := Lib.hid (own_below HO2.out hb3)
      obtain ⟨nv, hnv⟩ : ∃ nv, nv = neverE H K x := ⟨_, rfl⟩
      rw [← hnv] at HST ⊢
      clear hnv z0 z1 z2 z3 HO2 HY2 hz
      have z0 := hz3.cell 0
      simp only [List.getElem?_toArray, List.getElem?_cons_zero, List.getElem?_cons_succ] at z0
      cases nv
      · go_wp2_with fail
        go_roundw
        case rel => exact ⟨i + 1, A, c, l', hlt, by go_num, rfl, Lib.hid (by rw [HST.out]; simp), HO3.out, hr3⟩
        case measure => simp [intOf]; omega
      · have HO4 := Lib.hid (own_below HO3.out ((Below.refl _ w3).alloc (Nat.le_refl _) (.cells #[.string x.p] 9)))
        have HRD : Hid (Rd (w3.alloc (.cells #[.string x.p] 9)) (fun _ => True) 1 (some ⟨w3.heap.size, 0, none⟩) 1 [stv x.pl.1]) := Lib.hid ((Rd.lit rfl rfl rfl).mono (fun _ _ _ => trivial))
        have hr4 := hr3.alloc hr3.size (.cells #[.string x.p] 9)
        have hsz := hr4.size
        clear HO3 hz3
        go_wp2_with (at_builtin; refine wpList_append_txt rfl (.tmp 21) (.tmp 24) (t := 54) rfl rfl rfl HO4.out rfl HRD.out (by omega) hsz ?_; intro A' c' w5 h1 h2)
        have hr5 : Below w1.heap.size w1 w5 := hr4.trans h2
        have HO5 := Lib.hid h1
        clear h1 h2 HO4 HRD
        go_wp2_with fail
        go_roundw
        case rel => exact ⟨i + 1, A', c', l' ++ [x.pl.1], hlt, by go_num, by rw [List.length_append]; rfl, Lib.hid (by rw [HST.out]; simp), HO5.out, hr5⟩
        case measure => simp [intOf]; omega
    · have e : i = M.length := by omega
      subst e
      have hlJ : Hid (l' = J) := Lib.hid (by rw [hl'.out, List.take_length]; exact HJM.out)
      obtain ⟨A', c', e, hc1, hc2, _⟩ := own_form hown
      injection e with e1 e2 e3
      subst e1 e3
      have HC := Lib.hid (clip_any A c l' wr (Rd.of_own hown (fun _ _ _ => trivial)) hc1 hc2)
      have hwr := hw1.trans (hb.mono hw1.size)
      clear hown hl'
      go_wp2_with fail
      refine HC.out.mono ?_
      rintro e w5 ⟨⟨A5, c5, rfl, hr5⟩, hb5⟩
      have hw5 := hwr.trans (hb5.mono hwr.size)
      have HR5 := Lib.hid hr5
      clear hr5 HC
      go_wp2_with fail
      go_ret
      exact ⟨⟨A5, c5, l', rfl, hlJ, HR5.out⟩, hw5⟩

end Go.Proofs.YtdnljmncdbcgeaaGreat
