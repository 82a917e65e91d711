/- disk.Disk in memory; what only tells: none, Off, Room, Sure, at. -/
import Derived.Test.YtmdbfhfjaapeoaaA01
import Derived.Laws.AppendOwnNone
import Derived.Shelf.Small.Bits
import Derived.Shelf.Small.Wraps
import Derived.Shelf.Strconv.Itoa0
import Derived.Shelf.Sort.Plain
import Derived.Ground.Names2Prog
import Derived.Shelf.Slices.SearchI
import Derived.Shelf.Slices.In.SortNone
import Derived.Ground.SlbCloneProg
import Derived.Shelf.Bytes.SlClone
import Derived.Test.YtmdbfhfjaapeoaaProg
import Derived.Shelf.SlIterI.Nil
import Derived.Shelf.SortM.Plain
import Derived.Shelf.SortM.SortNone
import Derived.Deep.Quiet
import Derived.StillTail
import Derived.BigQuiet
import Derived.Defers
import Derived.Deep.Slices

namespace Go.Proofs.Ytmdbfhfjaapeoaa
open Go.RowKit Go.Maps Go.Shelf

/-- a file -/
structure FV where
  x : BV
  s : Int
def FV.v (f : FV) : Value := .agg #[.slice f.x.A f.x.l.length f.x.c, .int .i64 f.s]
def FV.p (f : FV) : FP := (f.x.l, f.s)
def plainD (L : List (Int × FV)) : List (Int × FP) := L.map fun x => (x.1, x.2.p)
def mapD (L : List (Int × FV)) : List (Int × Value) := L.map fun x => (x.1, x.2.v)
theorem get_plainD (L : List (Int × FV)) (n : Int) : getZ (plainD L) n = (getZ L n).map FV.p := getZ_map FV.p L n
theorem get_mapD (L : List (Int × FV)) (n : Int) : getZ (mapD L) n = (getZ L n).map FV.v := getZ_map FV.v L n
theorem keys_plainD (L : List (Int × FV)) : keysZ (plainD L) = keysZ L := keysZ_map FV.p L
theorem keys_mapD (L : List (Int × FV)) : keysZ (mapD L) = keysZ L := keysZ_map FV.v L
theorem plainD_len (L : List (Int × FV)) : (plainD L).length = L.length := by simp [plainD]
theorem mapD_len (L : List (Int × FV)) : (mapD L).length = L.length := by simp [mapD]
theorem plainD_put (L : List (Int × FV)) (n : Int) (f : FV) : plainD (putZ L n f) = putZ (plainD L) n f.p := (putZ_map FV.p L n f).symm
theorem mapD_put (L : List (Int × FV)) (n : Int) (f : FV) : mapD (putZ L n f) = putZ (mapD L) n f.v := (putZ_map FV.v L n f).symm
theorem plainD_without (L : List (Int × FV)) (n : Int) : plainD (withoutZ L n) = withoutZ (plainD L) n := (withoutZ_map FV.p L n).symm
theorem mapD_without (L : List (Int × FV)) (n : Int) : mapD (withoutZ L n) = withoutZ (mapD L) n := (withoutZ_map FV.v L n).symm

/-- the disk at block tb, its map at mb -/
structure DiskAt (w : World) (tb mb : Nat) (L : List (Int × FV)) (D : DP) : Prop where
  blk : Blk w tb 52 #[.map (some mb), .int .i64 D.last, .int .i64 D.room, .int .i64 D.left]
  map : MapZ w Try.prog 3 mb (mapD L)
  ok : ∀ x ∈ L, x.2.x.ok w (fun _ => True)
  plain : Hid (plainD L = D.L)
/-- bytes do not lie in a disk's own blocks -/
theorem DiskAt.bytes {w : World} {tb mb : Nat} {L : List (Int × FV)} {D : DP} (h : DiskAt w tb mb L D) {Z : Nat → Prop} {A : Option Addr} {l : List UInt8} (hy : By w Z A l) : By w (fun b => Z b ∧ ¬ (b = tb ∨ b = mb)) A l := by
  refine ⟨hy.1, fun hn => ?_⟩
  obtain ⟨b, off, e, hz, hlt, hc⟩ := hy.2 hn
  refine ⟨b, off, e, ⟨hz, fun eb => ?_⟩, hlt, hc⟩
  rcases l with _ | ⟨x, l⟩
  · simp at hn
  · have h1 := hc 0 (bv x) rfl
    rcases eb with rfl | rfl
    · rw [h.blk.cell] at h1
      rcases Nat.lt_or_ge (off + 0) 4 with h0 | h0
      · generalize off + 0 = k at *
        obtain rfl | rfl | rfl | rfl : k = 0 ∨ k = 1 ∨ k = 2 ∨ k = 3 := by omega
        all_goals simp [bv] at h1
      · rw [Array.getElem?_eq_none (by simpa using h0)] at h1; cases h1
    · obtain ⟨D', ⟨es, clock, h2, _⟩, _⟩ := h.map.own
      simp [World.cell?, h2] at h1
theorem DiskAt.ne {w : World} {tb mb : Nat} {L : List (Int × FV)} {D : DP} (h : DiskAt w tb mb L D) : mb ≠ tb := by
  rintro rfl
  exact h.map.not_cells h.blk
theorem DiskAt.fr {w w' : World} {tb mb : Nat} {L : List (Int × FV)} {D : DP} {S : Nat → Prop} (h : DiskAt w tb mb L D) (k : Fr S w w') (h1 : ¬ S tb) (h2 : ¬ S mb) (h3 : ∀ x ∈ L, By w (fun b => ¬ S b) x.2.x.A x.2.x.l) : DiskAt w' tb mb L D :=
  ⟨h.blk.fr k h1, h.map.block (k.block mb h.map.lt h2), fun x hx => ⟨((h3 x hx).fr k (fun _ _ hz => hz)).mono (fun _ _ _ => trivial), (h.ok x hx).2⟩, h.plain⟩
theorem DiskAt.below {w w' : World} {tb mb : Nat} {L : List (Int × FV)} {D : DP} (h : DiskAt w tb mb L D) (k : Below w.heap.size w w') : DiskAt w' tb mb L D :=
  ⟨h.blk.below k, h.map.block (k.block mb h.map.lt), fun x hx => (h.ok x hx).below k, h.plain⟩
/-- what a call leaves of a disk -/
structure DiskTo (w : World) (tb mb : Nat) (D : DP) (w' : World) : Prop where
  at_ : ∃ L, DiskAt w' tb mb L D
  fr : Fr (fun g => g = tb ∨ g = mb) w w'
theorem DiskTo.of {w w' : World} {tb mb : Nat} {L : List (Int × FV)} {D : DP} (h : DiskAt w tb mb L D) (k : Below w.heap.size w w') : DiskTo w tb mb D w' := ⟨⟨L, h.below k⟩, Fr.of_below k _⟩
theorem DiskTo.trans {w w' w'' : World} {tb mb : Nat} {D D' : DP} (h : DiskTo w tb mb D w') (k : DiskTo w' tb mb D' w'') : DiskTo w tb mb D' w'' := ⟨k.at_, h.fr.trans k.fr (fun _ _ e => e)⟩

/-- a file, or a plain one -/
def fileO : Option FV → Value
  | some f => f.v
  | none => .agg #[.slice none 0 0, .int .i64 0]
theorem file_zero (w : World) : (zeroValue 65).run Try.prog w = .ok (.agg #[.slice none 0 0, .int .i64 0]) w := by kernel_rfl
theorem DiskAt.look {w : World} {tb mb : Nat} {L : List (Int × FV)} {D : DP} (h : DiskAt w tb mb L D) (n : Int) (hn : (Lit.int .i64 n).wf = true) :
    (Instr.lookup 50 (.map (some mb)) (.int .i64 n) false).run Try.prog w = .ok (fileO (getZ L n)) w := by
  rw [h.map.look Try.underlying3 Try.underlying50 (file_zero w) n hn, get_mapD]
  rcases getZ L n with _ | o <;> rfl
theorem DiskAt.look_ok {w : World} {tb mb : Nat} {L : List (Int × FV)} {D : DP} (h : DiskAt w tb mb L D) (n : Int) (hn : (Lit.int .i64 n).wf = true) :
    (Instr.lookup 50 (.map (some mb)) (.int .i64 n) true).run Try.prog w = .ok (.tuple #[fileO (getZ L n), .bool (getZ L n).isSome]) w := by
  rw [h.map.look_ok Try.underlying3 Try.underlying50 (file_zero w) n hn, get_mapD]
  rcases getZ L n with _ | o <;> rfl
theorem mapn_eq_nil (w : World) (m : Option Nat) : (binOp .eql 50 (.map m) (.map none)).run Try.prog w = .ok (.bool m.isNone) w := run_eql_map_nil w _ _ _ m Try.underlying50
theorem DiskAt.cells {w : World} {tb mb : Nat} {L : List (Int × FV)} {D : DP} (h : DiskAt w tb mb L D) :
    w.cell? ⟨tb, 0, none⟩ = some (.map (some mb)) ∧ w.cell? ⟨tb, 1, none⟩ = some (.int .i64 D.last) ∧ w.cell? ⟨tb, 2, none⟩ = some (.int .i64 D.room) ∧ w.cell? ⟨tb, 3, none⟩ = some (.int .i64 D.left) :=
  ⟨h.blk.cell 0, h.blk.cell 1, h.blk.cell 2, h.blk.cell 3⟩

set_option maxRecDepth 100000 in
set_option maxHeartbeats 400000 in
theorem none_any (tb mb : Nat) (L : List (Int × FV)) (D : DP) (w : World) (h : DiskAt w tb mb L D) :
    Calls Try.prog 27 #[.pointer (some ⟨tb, 0, none⟩)] w fun e w' => e = .returned (.bool false) ∧ w = w' := by
  obtain ⟨c0, _⟩ := h.cells
  have hmn := fun W m => mapn_eq_nil W m
  clear h
  go_enter Try.func27, Try.ntmps27
  go_wp2_with fail
  go_ret
  exact ⟨rfl, rfl⟩
set_option maxRecDepth 100000 in
set_option maxHeartbeats 400000 in
theorem none_nil (w : World) : Calls Try.prog 27 #[.pointer none] w fun e w' => e = .returned (.bool true) ∧ w = w' := by
  go_enter Try.func27, Try.ntmps27
  go_wp2_with fail
  go_ret
  exact ⟨rfl, rfl⟩
set_option maxRecDepth 100000 in
set_option maxHeartbeats 400000 in
theorem none_plain (tb : Nat) (w : World) (c0 : w.cell? ⟨tb, 0, none⟩ = some (.map none)) : Calls Try.prog 27 #[.pointer (some ⟨tb, 0, none⟩)] w fun e w' => e = .returned (.bool true) ∧ w = w' := by
  have hmn := fun W m => mapn_eq_nil W m
  go_enter Try.func27, Try.ntmps27
  go_wp2_with fail
  go_ret
  exact ⟨rfl, rfl⟩
set_option maxRecDepth 100000 in
set_option maxHeartbeats 400000 in
theorem off_any (tb mb : Nat) (L : List (Int × FV)) (D : DP) (w : World) (h : DiskAt w tb mb L D) :
    Calls Try.prog 25 #[.pointer (some ⟨tb, 0, none⟩)] w fun e w' => e = .returned (.bool (D.left == 0)) ∧ w = w' := by
  obtain ⟨_, _, _, c3⟩ := h.cells
  go_enter Try.func25, Try.ntmps25
  go_wp2_with fail
  refine (none_any tb mb L D w h).mono ?_
  rintro e w1 ⟨rfl, rfl⟩
  clear h
  go_wp2_with fail
  go_ret
  exact ⟨rfl, rfl⟩
set_option maxRecDepth 100000 in
set_option maxHeartbeats 400000 in
theorem room_any (tb mb : Nat) (L : List (Int × FV)) (D : DP) (w : World) (h : DiskAt w tb mb L D) :
    Calls Try.prog 23 #[.pointer (some ⟨tb, 0, none⟩)] w fun e w' => e = .returned (.int .i64 D.room) ∧ w = w' := by
  obtain ⟨_, _, c2, _⟩ := h.cells
  go_enter Try.func23, Try.ntmps23
  go_wp2_with fail
  refine (none_any tb mb L D w h).mono ?_
  rintro e w1 ⟨rfl, rfl⟩
  clear h
  go_wp2_with fail
  go_ret
  exact ⟨rfl, rfl⟩
theorem file_fld0 (v1 v2 : Value) (w : World) : (Instr.field 65 (.agg #[v1, v2]) 0).run Try.prog w = .ok v1 w := by kernel_rfl
theorem file_fld1 (v1 v2 : Value) (w : World) : (Instr.field 65 (.agg #[v1, v2]) 1).run Try.prog w = .ok v2 w := by kernel_rfl
theorem fileO_form (o : Option FV) : ∃ A c l s, fileO o = .agg #[.slice A (l : List UInt8).length c, .int .i64 s] ∧ (o.map FV.p).getD ([], 0) = (l, s) := by
  rcases o with _ | f
  · exact ⟨none, 0, [], 0, rfl, rfl⟩
  · exact ⟨f.x.A, f.x.c, f.x.l, f.s, rfl, rfl⟩
theorem DiskAt.file {w : World} {tb mb : Nat} {L : List (Int × FV)} {D : DP} (h : DiskAt w tb mb L D) (n : Int) :
    ∃ f : FV, fileO (getZ L n) = f.v ∧ f.p = fileS D n ∧ f.x.ok w (fun _ => True) ∧ ((getZ D.L n).isNone = (getZ L n).isNone) := by
  have e : getZ D.L n = (getZ L n).map FV.p := by rw [← h.plain.out, get_plainD]
  unfold fileS
  rcases hg : getZ L n with _ | f
  · rw [hg] at e
    exact ⟨⟨⟨none, 0, []⟩, 0⟩, rfl, by rw [e]; rfl, ⟨Rd.nil, by simp, by simp [maxLen]⟩, by rw [e]; rfl⟩
  · rw [hg] at e
    exact ⟨f, rfl, by rw [e]; rfl, h.ok _ (getZ_mem hg), by rw [e]; rfl⟩
set_option maxRecDepth 100000 in
set_option maxHeartbeats 400000 in
theorem sure_any (tb mb : Nat) (L : List (Int × FV)) (D : DP) (n : Int) (w : World) (h : DiskAt w tb mb L D) (hn : (Lit.int .i64 n).wf = true) :
    Calls Try.prog 21 #[.pointer (some ⟨tb, 0, none⟩), .int .i64 n] w fun e w' => e = .returned (.int .i64 (fileS D n).2) ∧ w = w' := by
  obtain ⟨c0, _⟩ := h.cells
  have hl := h.look n hn
  obtain ⟨f, hf, hp, _⟩ := h.file n
  rw [hf] at hl
  unfold FV.v at hl
  have hs : (fileS D n).2 = f.s := by rw [← hp]; rfl
  rw [hs]
  have HNO := Lib.hid (none_any tb mb L D w h)
  have hfd := fun v1 v2 W => file_fld1 v1 v2 W
  clear hf hp hs h hn
  go_enter Try.func21, Try.ntmps21
  go_wp2_with fail
  refine HNO.out.mono ?_
  rintro e w1 ⟨rfl, rfl⟩
  go_wp2_with fail
  go_ret
  exact ⟨rfl, rfl⟩
set_option maxRecDepth 100000 in
set_option maxHeartbeats 1000000 in
/-- the file, if it can be asked for -/
theorem at_any (tb mb : Nat) (L : List (Int × FV)) (D : DP) (n : Int) (w : World) (h : DiskAt w tb mb L D) (hn : (Lit.int .i64 n).wf = true) :
    Calls Try.prog 28 #[.pointer (some ⟨tb, 0, none⟩), .int .i64 n] w fun e w' => (∃ f : FV, e = .returned (.tuple #[.agg #[.slice f.x.A f.x.l.length f.x.c, .int .i64 f.s], .int .i64 (askS D n)]) ∧ Hid (f.p = if askS D n = 0 then fileS D n else ([], 0)) ∧ f.x.ok w' (fun _ => True)) ∧ Below w.heap.size w w' := by
  have hb0 : Below w.heap.size w (w.alloc (.cells #[.slice none 0 0, .int .i64 0] 65)) := (by repeat (first | exact Below.refl _ _ | refine Below.alloc ?_ (by simp) _ | refine Below.setCell ?_ (by simp) _ | refine Below.drew ?_))
  have h0 := h.below hb0
  obtain ⟨c0, _, _, c3⟩ := h0.cells
  have hl := h0.look_ok n hn
  obtain ⟨f, hf, hp, hok, hne⟩ := h0.file n
  rw [hf] at hl
  unfold FV.v at hl
  have HNO := Lib.hid (none_any tb mb L D _ h0)
  have hb1 : Below w.heap.size w ((w.alloc (.cells #[.slice none 0 0, .int .i64 0] 65)).alloc (.cells #[.slice f.x.A f.x.l.length f.x.c, .int .i64 f.s] 65)) := hb0.alloc hb0.size _
  obtain ⟨_, _, _, e3⟩ := (h.below hb1).cells
  obtain ⟨E, hE⟩ : ∃ E, E = askS D n := ⟨_, rfl⟩
  rw [← hE]
  obtain ⟨f2, hf2, hp2, hok2, _⟩ := h.file n
  have hff : f.v = f2.v := by rw [← hf, hf2]
  have HOK : Hid (f.x.ok w (fun _ => True)) := by
    unfold FV.v at hff
    simp at hff
    obtain ⟨⟨h1, h2, h3⟩, h4⟩ := hff
    have hl2 : f.x.l = f2.x.l := congrArg Prod.fst (hp.trans hp2.symm)
    have e : f.x = f2.x := by
      obtain ⟨⟨a1, a2, a3⟩, a4⟩ := f
      obtain ⟨⟨b1, b2, b3⟩, b4⟩ := f2
      dsimp only at h1 h3 hl2
      subst h1 h3 hl2
      rfl
    rw [e]
    exact hok2
  clear hf2 hp2 hok2 hff
  have HNIL : ∀ W : World, BV.ok W (fun _ => True) ⟨none, 0, []⟩ := fun W => ⟨Rd.nil, by simp, by simp [maxLen]⟩
  clear hn
  by_cases h1 : D.left = 0
  · obtain rfl : E = 25 := by rw [hE]; unfold askS; rw [if_pos h1]
    rw [h1] at c3 e3
    clear hf hne h hE h0 hok h1
    generalize (getZ L n).isSome = bs at *
    go_enter Try.func28, Try.ntmps28
    go_wp2_with fail
    refine HNO.out.mono ?_
    rintro e w1 ⟨rfl, rfl⟩
    go_wp2_with fail
    refine bodyPost_ret (v := .tuple #[.agg #[.slice none 0 0, .int .i64 0], .int .i64 25]) (by simp [results, Try.results28, go_sem]) rfl ?_
    exact ⟨⟨⟨⟨none, 0, []⟩, 0⟩, rfl, rfl, HNIL _⟩, (by repeat (first | exact Below.refl _ _ | refine Below.alloc ?_ (by simp) _ | refine Below.setCell ?_ (by simp) _ | refine Below.drew ?_))⟩
  · have h1b : (D.left == 0) = false := by simpa using h1
    rcases hg : getZ L n with _ | f'
    · obtain rfl : E = 20 := by rw [hE]; unfold askS; rw [if_neg h1, if_pos (by rw [hne, hg]; rfl)]
      rw [hg] at hl
      simp only [Option.isSome_none] at hl
      clear hf hne h hE h0 hok h1 hg
      go_enter Try.func28, Try.ntmps28
      go_wp2_with fail
      refine HNO.out.mono ?_
      rintro e w1 ⟨rfl, rfl⟩
      go_wp2_with fail
      refine bodyPost_ret (v := .tuple #[.agg #[.slice none 0 0, .int .i64 0], .int .i64 20]) (by simp [results, Try.results28, go_sem]) rfl ?_
      exact ⟨⟨⟨⟨none, 0, []⟩, 0⟩, rfl, rfl, HNIL _⟩, (by repeat (first | exact Below.refl _ _ | refine Below.alloc ?_ (by simp) _ | refine Below.setCell ?_ (by simp) _ | refine Below.drew ?_))⟩
    · obtain rfl : E = 0 := by rw [hE]; unfold askS; rw [if_neg h1, if_neg (by rw [hne, hg]; simp)]
      rw [hg] at hl
      simp only [Option.isSome_some] at hl
      have HP := Lib.hid hp
      have x2 := Blk.new (w.alloc (.cells #[.slice none 0 0, .int .i64 0] 65)) 65 #[.slice f.x.A f.x.l.length f.x.c, .int .i64 f.s]
      rw [show (w.alloc (.cells #[.slice none 0 0, .int .i64 0] 65)).heap.size = w.heap.size + 1 by simp] at x2
      have y0 := x2.cell 0
      have y1 := x2.cell 1
      simp only [List.getElem?_toArray, List.getElem?_cons_zero, List.getElem?_cons_succ] at y0 y1
      clear hf hne h hE h0 hok h1 hg hp x2
      go_enter Try.func28, Try.ntmps28
      go_wp2_with fail
      refine HNO.out.mono ?_
      rintro e w1 ⟨rfl, rfl⟩
      go_wp2_with fail
      have x3 := (Blk.new w 65 #[.slice f.x.A f.x.l.length f.x.c, .int .i64 f.s]).below ((Below.refl _ _).alloc (Nat.le_refl _) (.cells #[.slice f.x.A f.x.l.length f.x.c, .int .i64 f.s] 65))
      have z0 := x3.cell 0
      have z1 := x3.cell 1
      simp only [List.getElem?_toArray, List.getElem?_cons_zero, List.getElem?_cons_succ] at z0 z1
      have hba : Below w.heap.size w ((w.alloc (.cells #[.slice f.x.A f.x.l.length f.x.c, .int .i64 f.s] 65)).alloc (.cells #[.slice f.x.A f.x.l.length f.x.c, .int .i64 f.s] 65)) := (by repeat (first | exact Below.refl _ _ | refine Below.alloc ?_ (by simp) _ | refine Below.setCell ?_ (by simp) _ | refine Below.drew ?_))
      clear x3
      refine bodyPost_ret (v := .tuple #[.agg #[.slice f.x.A f.x.l.length f.x.c, .int .i64 f.s], .int .i64 0]) (by simp [results, Try.results28, go_sem, z0, z1]) rfl ?_
      exact ⟨⟨f, rfl, HP.out, HOK.out.below hba⟩, hba⟩
end Go.Proofs.Ytmdbfhfjaapeoaa

/-
  DERIVED: THE SHELF's CONTRACTS AT THIS DUMP, IN PLAIN WORDS (tools/lay-plain.mjs out of 'TryShelf.lean', which tools/lay-shelf.mjs wrote): THE SAME DECLARATIONS UNDER THE SAME NAMES: 'import', 'namespace', 'open', 'def', 'theorem' AND NOTHING ELSE: no command of the shelf's: FOR A HAND-IN. Each laying: the table of numbers ('.._ren') and one theorem, a field a fact of the dump's own or the kernel's comparison; each contract: ONE APPLICATION.
-/
namespace Go.Proofs
open Go.Shelf
def Try.lays128_ren : Go.Shelf.Ren := ⟨fun | 128 => 65 | n => n, fun | 51 => 112 | 3 => 3 | 4 => 4 | 46 => 101 | 5 => 5 | 9 => 9 | n => n, fun | n => n⟩
theorem Try.lays128 : Go.Proofs.Lays.n128 Try.prog Try.lays128_ren := {
  mixed := by kernel_rfl
  f128 := Try.func65.trans (congrArg some (by kernel_rfl))
  t3 := Try.underlying3
  a3 := Try.isAgg3
  z3 := Try.sizeOf3
  v3 := Try.zeroValue3
  t4 := Try.underlying4
  a4 := Try.isAgg4
  z4 := Try.sizeOf4
  v4 := Try.zeroValue4
  t5 := Try.underlying5
  a5 := Try.isAgg5
  z5 := Try.sizeOf5
  v5 := Try.zeroValue5
  t9 := Try.underlying9
  a9 := Try.isAgg9
  z9 := Try.sizeOf9
  v9 := Try.zeroValue9
  t46 := Try.underlying101
  a46 := Try.isAgg101
  z46 := Try.sizeOf101
  v46 := Try.zeroValue101
  t51 := Try.underlying112
  a51 := Try.isAgg112
  z51 := Try.sizeOf112
  v51 := Try.zeroValue112 }
/-- bits.Len32: "Len32 returns the minimum number of bits required to represent x; the result is 0 for x == 0.": IT RETURNS 'Lib.bitLen x'; the world is as it was. ('h0', 'h1': x is a uint32.) (LAID: no walk: one application.) -/
theorem Try.bits_Len32 (x : Int) (w : World) (h0 : 0 ≤ x) (h1 : x ≤ 4294967295) :
    Calls Try.prog 65 #[.int .u32 x] w fun e w' => e = .returned (.int .i64 (Lib.bitLen x.toNat)) ∧ w' = w := Any.bits_Len32 Try.lays128 x w h0 h1
def Try.lays125_ren : Go.Shelf.Ren := ⟨fun | 125 => 55 | 128 => 65 | 129 => 66 | n => n, fun | 46 => 101 | 3 => 3 | 51 => 112 | 53 => 114 | 4 => 4 | 5 => 5 | 9 => 9 | n => n, fun | n => n⟩
theorem Try.lays125 : Go.Proofs.Lays.n125 Try.prog Try.lays125_ren := {
  mixed := by kernel_rfl
  f125 := Try.func55.trans (congrArg some (by kernel_rfl))
  f128 := Try.func65.trans (congrArg some (by kernel_rfl))
  f129 := Try.func66.trans (congrArg some (by kernel_rfl))
  t3 := Try.underlying3
  a3 := Try.isAgg3
  z3 := Try.sizeOf3
  v3 := Try.zeroValue3
  t4 := Try.underlying4
  a4 := Try.isAgg4
  z4 := Try.sizeOf4
  v4 := Try.zeroValue4
  t5 := Try.underlying5
  a5 := Try.isAgg5
  z5 := Try.sizeOf5
  v5 := Try.zeroValue5
  t9 := Try.underlying9
  a9 := Try.isAgg9
  z9 := Try.sizeOf9
  v9 := Try.zeroValue9
  t46 := Try.underlying101
  a46 := Try.isAgg101
  z46 := Try.sizeOf101
  v46 := Try.zeroValue101
  t51 := Try.underlying112
  a51 := Try.isAgg112
  z51 := Try.sizeOf112
  v51 := Try.zeroValue112
  t53 := Try.underlying114
  a53 := Try.isAgg114
  z53 := Try.sizeOf114
  v53 := Try.zeroValue114 }
/-- bits.Len: "Len returns the minimum number of bits required to represent x; the result is 0 for x == 0.": IT RETURNS 'Lib.bitLen x'; the world is as it was. (A uint has 64 bits in the model.) ITS CALLEE bits.Len64 IS MET BY ITS OWN CONTRACT OFF THE SHELF (lay that first). (LAID: no walk: one application.) -/
theorem Try.bits_Len (x : Int) (w : World) (h0 : 0 ≤ x) (h1 : x ≤ 18446744073709551615) :
    Calls Try.prog 55 #[.int .u64 x] w fun e w' => e = .returned (.int .i64 (Lib.bitLen x.toNat)) ∧ w' = w := Any.bits_Len Try.lays125 x w h0 h1
def Try.lays215_ren : Go.Shelf.Ren := ⟨fun | 215 => 72 | n => n, fun | 3 => 3 | 4 => 4 | n => n, fun | n => n⟩
theorem Try.lays215 : Go.Proofs.Lays.n215 Try.prog Try.lays215_ren := {
  mixed := by kernel_rfl
  f215 := Try.func72.trans (congrArg some (by kernel_rfl))
  t3 := Try.underlying3
  a3 := Try.isAgg3
  z3 := Try.sizeOf3
  v3 := Try.zeroValue3
  t4 := Try.underlying4
  a4 := Try.isAgg4
  z4 := Try.sizeOf4
  v4 := Try.zeroValue4 }
open Go.RowKit in
/-- cmp.isNaN at int: 'x != x': false. (LAID: no walk: one application.) -/
theorem Try.cmp_isNaN_int (x : Int) (w : World) :
    Calls Try.prog 72 #[.int .i64 x] w fun e w' => e = .returned (.bool false) ∧ w' = w := Any.cmp_isNaN_int Try.lays215 x w
def Try.lays129_ren : Go.Shelf.Ren := ⟨fun | 129 => 66 | n => n, fun | 53 => 114 | 3 => 3 | 4 => 4 | 46 => 101 | 5 => 5 | 9 => 9 | n => n, fun | n => n⟩
theorem Try.lays129 : Go.Proofs.Lays.n129 Try.prog Try.lays129_ren := {
  mixed := by kernel_rfl
  f129 := Try.func66.trans (congrArg some (by kernel_rfl))
  t3 := Try.underlying3
  a3 := Try.isAgg3
  z3 := Try.sizeOf3
  v3 := Try.zeroValue3
  t4 := Try.underlying4
  a4 := Try.isAgg4
  z4 := Try.sizeOf4
  v4 := Try.zeroValue4
  t5 := Try.underlying5
  a5 := Try.isAgg5
  z5 := Try.sizeOf5
  v5 := Try.zeroValue5
  t9 := Try.underlying9
  a9 := Try.isAgg9
  z9 := Try.sizeOf9
  v9 := Try.zeroValue9
  t46 := Try.underlying101
  a46 := Try.isAgg101
  z46 := Try.sizeOf101
  v46 := Try.zeroValue101
  t53 := Try.underlying114
  a53 := Try.isAgg114
  z53 := Try.sizeOf114
  v53 := Try.zeroValue114 }
/-- bits.Len64: "Len64 returns the minimum number of bits required to represent x; the result is 0 for x == 0.": IT RETURNS 'Lib.bitLen x'; the world is as it was. ('h0', 'h1': x is a uint64.) (LAID: no walk: one application.) -/
theorem Try.bits_Len64 (x : Int) (w : World) (h0 : 0 ≤ x) (h1 : x ≤ 18446744073709551615) :
    Calls Try.prog 66 #[.int .u64 x] w fun e w' => e = .returned (.int .i64 (Lib.bitLen x.toNat)) ∧ w' = w := Any.bits_Len64 Try.lays129 x w h0 h1
def Try.lays189_ren : Go.Shelf.Ren := ⟨fun | 189 => 51 | 125 => 55 | 257 => 54 | 128 => 65 | 129 => 66 | 294 => 56 | 295 => 57 | 296 => 58 | 297 => 59 | 298 => 60 | 299 => 61 | 216 => 62 | 300 => 63 | 301 => 64 | 328 => 67 | 329 => 68 | 330 => 69 | 331 => 70 | 332 => 71 | 215 => 72 | 343 => 73 | n => n, fun | 28 => 57 | 3 => 3 | 46 => 101 | 0 => 0 | 51 => 112 | 53 => 114 | 4 => 4 | 183 => 104 | 182 => 103 | 131 => 109 | 5 => 5 | 9 => 9 | 218 => 115 | 222 => 119 | 228 => 121 | 229 => 122 | n => n, fun | n => n⟩
theorem Try.lays189 : Go.Proofs.Lays.n189 Try.prog Try.lays189_ren := {
  mixed := by kernel_rfl
  f125 := Try.func55.trans (congrArg some (by kernel_rfl))
  f128 := Try.func65.trans (congrArg some (by kernel_rfl))
  f129 := Try.func66.trans (congrArg some (by kernel_rfl))
  f189 := Try.func51.trans (congrArg some (by kernel_rfl))
  f215 := Try.func72.trans (congrArg some (by kernel_rfl))
  f216 := Try.func62.trans (congrArg some (by kernel_rfl))
  f257 := Try.func54.trans (congrArg some (by kernel_rfl))
  f294 := Try.func56.trans (congrArg some (by kernel_rfl))
  f295 := Try.func57.trans (congrArg some (by kernel_rfl))
  f296 := Try.func58.trans (congrArg some (by kernel_rfl))
  f297 := Try.func59.trans (congrArg some (by kernel_rfl))
  f298 := Try.func60.trans (congrArg some (by kernel_rfl))
  f299 := Try.func61.trans (congrArg some (by kernel_rfl))
  f300 := Try.func63.trans (congrArg some (by kernel_rfl))
  f301 := Try.func64.trans (congrArg some (by kernel_rfl))
  f328 := Try.func67.trans (congrArg some (by kernel_rfl))
  f329 := Try.func68.trans (congrArg some (by kernel_rfl))
  f330 := Try.func69.trans (congrArg some (by kernel_rfl))
  f331 := Try.func70.trans (congrArg some (by kernel_rfl))
  f332 := Try.func71.trans (congrArg some (by kernel_rfl))
  f343 := Try.func73.trans (congrArg some (by kernel_rfl))
  t0 := Try.underlying0
  a0 := Try.isAgg0
  z0 := Try.sizeOf0
  v0 := Try.zeroValue0
  t3 := Try.underlying3
  a3 := Try.isAgg3
  z3 := Try.sizeOf3
  v3 := Try.zeroValue3
  t4 := Try.underlying4
  a4 := Try.isAgg4
  z4 := Try.sizeOf4
  v4 := Try.zeroValue4
  t5 := Try.underlying5
  a5 := Try.isAgg5
  z5 := Try.sizeOf5
  v5 := Try.zeroValue5
  t9 := Try.underlying9
  a9 := Try.isAgg9
  z9 := Try.sizeOf9
  v9 := Try.zeroValue9
  t28 := Try.underlying57
  a28 := Try.isAgg57
  z28 := Try.sizeOf57
  v28 := Try.zeroValue57
  t46 := Try.underlying101
  a46 := Try.isAgg101
  z46 := Try.sizeOf101
  v46 := Try.zeroValue101
  t51 := Try.underlying112
  a51 := Try.isAgg112
  z51 := Try.sizeOf112
  v51 := Try.zeroValue112
  t53 := Try.underlying114
  a53 := Try.isAgg114
  z53 := Try.sizeOf114
  v53 := Try.zeroValue114
  t131 := Try.underlying109
  a131 := Try.isAgg109
  z131 := Try.sizeOf109
  v131 := Try.zeroValue109
  t182 := Try.underlying103
  a182 := Try.isAgg103
  z182 := Try.sizeOf103
  v182 := Try.zeroValue103
  t183 := Try.underlying104
  a183 := Try.isAgg104
  z183 := Try.sizeOf104
  v183 := Try.zeroValue104
  t218 := Try.underlying115
  a218 := Try.isAgg115
  z218 := Try.sizeOf115
  v218 := Try.zeroValue115
  t222 := Try.underlying119
  a222 := Try.isAgg119
  z222 := Try.sizeOf119
  v222 := Try.zeroValue119
  t228 := Try.underlying121
  a228 := Try.isAgg121
  z228 := Try.sizeOf121
  v228 := Try.zeroValue121
  t229 := Try.underlying122
  a229 := Try.isAgg122
  z229 := Try.sizeOf122
  v229 := Try.zeroValue122 }
open Go.Sort Go.RowKit in
theorem Try.slices_Sort_int (blk off cap : Nat) (zs : List Int) (w : World) (hH : Holds (Value.int .i64) w blk off zs.toArray) (hblk : blk < w.heap.size) (hsz : zs.length < 4611686018427387904) :
    Calls Try.prog 51 #[.slice (some ⟨blk, off, none⟩) zs.length cap] w fun e w' =>
      e = .returned (.tuple #[]) ∧ ∃ n os, w' = grow (putRow (Value.int .i64) (Sort.ahead w n) blk off (zs.mergeSort fun x y => decide (x ≤ y)).toArray) os := Any.slices_Sort_int Try.lays189 blk off cap zs w hH hblk hsz
def Try.laysNm237_ren : Go.Shelf.Ren := ⟨fun | 37 => 72 | n => n, fun | 3 => 3 | 4 => 4 | n => n, fun | n => n⟩
theorem Try.laysNm237 : Go.Proofs.Lays2.n37 Try.prog Try.laysNm237_ren := {
  mixed := by kernel_rfl
  f37 := Try.func72.trans (congrArg some (by kernel_rfl))
  t3 := Try.underlying3
  a3 := Try.isAgg3
  z3 := Try.sizeOf3
  v3 := Try.zeroValue3
  t4 := Try.underlying4
  a4 := Try.isAgg4
  z4 := Try.sizeOf4
  v4 := Try.zeroValue4 }
open Go.RowKit Go.Lib in
/-- cmp.isNaN[int]: 'x != x': false. (LAID: no walk: one application.) -/
theorem Try.cmp_isNaN_int2 (x : Int) (w : World) :
    Calls Try.prog 72 #[.int .i64 x] w fun e w' => e = .returned (.bool false) ∧ w' = w := Any.cmp_isNaN_int2 Try.laysNm237 x w
def Try.laysNm231_ren : Go.Shelf.Ren := ⟨fun | 31 => 62 | 37 => 72 | n => n, fun | 3 => 3 | 4 => 4 | n => n, fun | n => n⟩
theorem Try.laysNm231 : Go.Proofs.Lays2.n31 Try.prog Try.laysNm231_ren := {
  mixed := by kernel_rfl
  f31 := Try.func62.trans (congrArg some (by kernel_rfl))
  f37 := Try.func72.trans (congrArg some (by kernel_rfl))
  t3 := Try.underlying3
  a3 := Try.isAgg3
  z3 := Try.sizeOf3
  v3 := Try.zeroValue3
  t4 := Try.underlying4
  a4 := Try.isAgg4
  z4 := Try.sizeOf4
  v4 := Try.zeroValue4 }
open Go.RowKit Go.Lib in
/-- cmp.Less[int]: "Less reports whether x is less than y.": 'x < y'; the world is as it was. (LAID: no walk: one application.) -/
theorem Try.cmp_Less_int2 (x y : Int) (w : World) :
    Calls Try.prog 62 #[.int .i64 x, .int .i64 y] w fun e w' => e = .returned (.bool (decide (x < y))) ∧ w' = w := Any.cmp_Less_int2 Try.laysNm231 x y w
open Go.RowKit Go.Sort in
/-- .. and plain. (LAID: no walk: one application.) -/
theorem Try.slices_Sort_int_none (p : Option Addr) (cap : Nat) (w : World) :
    Calls Try.prog 51 #[.slice p 0 cap] w fun e w' => e = .returned (.tuple #[]) ∧ w' = w := Any.slices_Sort_int_none Try.lays189 p cap w
def Try.laysSlK4_ren : Go.Shelf.Ren := ⟨fun | 4 => 39 | n => n, fun | 22 => 23 | 4 => 4 | 5 => 5 | n => n, fun | n => n⟩
theorem Try.laysSlK4 : Go.Proofs.SlLaysK.n4 Try.prog Try.laysSlK4_ren := {
  mixed := by kernel_rfl
  f4 := Try.func39.trans (congrArg some (by kernel_rfl))
  t4 := Try.underlying4
  a4 := Try.isAgg4
  z4 := Try.sizeOf4
  v4 := Try.zeroValue4
  t22 := Try.underlying23
  a22 := Try.isAgg23
  z22 := Try.sizeOf23
  v22 := Try.zeroValue23
  t5 := Try.underlying5
  i5 := by kernel_rfl }
open Go.RowKit Go.Lib in
/-- bytes.Clone: "Clone returns a copy of b[:len(b)]. The result may have additional unused capacity.": OF A SLICE THAT IS NOT nil IT RETURNS A SLICE THAT IS NOT nil, OF THE SAME BYTES, IN MEMORY OF THE CALL's OWN: in the how-to's words (6f): 'w'.ownsRow B e 1 v' n cells' · 'Below B w w'', B the heap's size at the call. b AT WHATEVER ADDRESS, its cells as 'open_ints' hands them ('a.add i'; the numbers 'xs'). No byte: no cell is asked for. (LAID: no walk: one application.) -/
theorem Try.bytes_Clone_at (a : Addr) (n c : Nat) (xs : List Int) (w : World) (hx : xs.length = n) (hbig : n ≤ 140737488355328) (hc : ∀ i, i < n → w.cell? (a.add i) = some (.int .u8 (xs.getD i 0))) :
    Calls Try.prog 39 #[.slice (some a) n c] w fun e w' => ∃ v', e = .returned v' ∧ w'.ownsRow w.heap.size 5 1 v' n (xs.map (Value.int .u8)) ∧ v' ≠ .slice none 0 0 ∧ Below w.heap.size w w' := Any.bytes_Clone_at Try.laysSlK4 a n c xs w hx hbig hc
open Go.RowKit Go.Lib in
/-- "Clone(nil) returns nil.": the world is as it was. (LAID: no walk: one application.) -/
theorem Try.bytes_Clone_nil (n c : Nat) (w : World) :
    Calls Try.prog 39 #[.slice none n c] w fun e w' => e = .returned (.slice none 0 0) ∧ w' = w := Any.bytes_Clone_nil Try.laysSlK4 n c w
end Go.Proofs

/- disk.Disk: Files, Used. -/
namespace Go.Proofs.Ytmdbfhfjaapeoaa
open Go.RowKit Go.Maps Go.Sort Go.Shelf

theorem sortsM (m : Nat) : AnyZI.SortsIn Try.prog Try.sortedM_ren Fence.wide m :=
  ⟨fun blk off cap ss W hH hblk hsz => callsIn_wide.2 (AnyM.slices_Sort_int Try.sortM blk off cap ss W hH hblk hsz),
   fun p cap W => callsIn_wide.2 (AnyM.slices_Sort_int_none Try.sortM p cap W)⟩
theorem keysM_any (mb : Option Nat) (W : World) : Calls Try.prog 43 #[.map mb] W fun e w' => e = .returned (.func (.func 52) #[] #[.pointer (some ⟨W.heap.size, 0, none⟩)]) ∧ w' = W.alloc (.cells #[.map mb] 50) :=
  (callsIn_wide (n := 5)).1 (AnyZI.keys_in Try.keysM Fence.wide 5 trivial rfl mb W)
set_option maxHeartbeats 1000000 in
theorem sortedM_any {mb : Nat} {L : List (Int × Value)} (w : World) (h : MapZ w Try.prog 3 mb L) (hl : L.length ≤ 1000000) :
    Calls Try.prog 42 #[.func (.func 52) #[] #[.pointer (some ⟨w.heap.size, 0, none⟩)]] (w.alloc (.cells #[.map (some mb)] 50)) fun e w' => ∃ A c, e = .returned (.slice A L.length c) ∧ w'.ownsRow w.heap.size 3 1 (.slice A L.length c) L.length ((keysZ L).map (Value.int .i64)) ∧ Below w.heap.size w w' := by
  obtain ⟨D, hown, ht⟩ := h.own
  obtain ⟨hp, hz⟩ := ownZ_keys hown Try.underlying3 ht h.sort
  have hseq : SeqGives Fence.wide 2 Try.prog 52 #[.pointer (some ⟨w.heap.size, 0, none⟩)] encZ (fun ss => ss.Perm (intKeys D)) (Maps.size D) (w.alloc (.cells #[.map (some mb)] 50)) :=
    AnyZI.keys_gives (ρ := Try.keysM_ren) { Try.keysM with } Fence.wide _ trivial rfl (by omega) w.heap.size mb L.length D _ (by simp) (by simp) (by
      obtain ⟨es, clock, hb, Ft, hs, hD⟩ := hown
      exact ⟨es, clock, (Below.heap_alloc _ _ mb h.lt).trans hb, Ft, hs, hD⟩)
  have cS := AnyZI.sorted_in Try.sortedM Fence.wide 5 trivial trivial trivial trivial rfl (by omega) (sortsM _) (enters_of Try.func51 (by kernel_rfl) rfl) 52 #[.pointer (some ⟨w.heap.size, 0, none⟩)] trivial (enters_of Try.func52 (by kernel_rfl) rfl) _ _ (by rw [hz]; simp only [maxLen]; omega) (by rw [hz]; omega) _ hseq
  change CallsIn _ _ Try.prog 42 _ _ _ at cS
  refine ((callsIn_wide (n := 5)).1 cS).mono ?_
  rintro e w' ⟨v, ss, rfl, hS, hrow, hnil, hb⟩
  have hsl : ss.length = L.length := by rw [hS.length_eq, ← hp.length_eq, keysZ_len]
  have hks : ss.mergeSort leI = keysZ L := keysZ_sort h.sort (hS.trans hp.symm)
  have hrow2 : w'.ownsRow w.heap.size 3 1 v L.length ((keysZ L).map (Value.int .i64)) := by
    rw [← hks, ← hsl]
    exact own_base hrow (fun g hg => by have := (hrow.lt g hg).1; simp at this; omega)
  obtain ⟨A, c, rfl, _⟩ := own_form hrow2
  exact ⟨A, c, rfl, hrow2, ((Below.refl _ w).alloc (Nat.le_refl _) _).trans (hb.mono (by simp))⟩
set_option maxHeartbeats 1000000 in
theorem files_any (tb mb : Nat) (L : List (Int × FV)) (D : DP) (w : World) (h : DiskAt w tb mb L D) (hl : L.length ≤ 1000000) :
    Calls Try.prog 24 #[.pointer (some ⟨tb, 0, none⟩)] w fun e w' => ∃ A c, e = .returned (.slice A L.length c) ∧ w'.ownsRow w.heap.size 3 1 (.slice A L.length c) L.length ((keysZ L).map (Value.int .i64)) ∧ Below w.heap.size w w' := by
  obtain ⟨c0, _⟩ := h.cells
  have HNO := Lib.hid (none_any tb mb L D w h)
  have hS := sortedM_any w h.map (by rw [mapD_len]; exact hl)
  rw [mapD_len, keys_mapD] at hS
  have HS := Lib.hid hS
  clear hS h
  go_enter Try.func24, Try.ntmps24
  go_wp2_with fail
  refine HNO.out.mono ?_
  rintro e w1 ⟨rfl, rfl⟩
  go_wp2_with fail
  refine (keysM_any (some mb) w).mono ?_
  rintro e w1 ⟨rfl, rfl⟩
  go_wp2_with fail
  refine HS.out.mono ?_
  rintro e w1 ⟨A, c, rfl, hr, hb⟩
  go_wp2_with fail
  go_ret
  exact ⟨A, c, rfl, hr, hb⟩
theorem int_at {w : World} {base : Nat} {A : Option Addr} {c : Nat} {l : List Int} (h : w.ownsRow base 3 1 (.slice A l.length c) l.length (l.map (Value.int .i64))) {i : Nat} (hi : i < l.length) :
    ∃ b off, A = some ⟨b, off, none⟩ ∧ b < w.heap.size ∧ w.cell? ⟨b, off + i, none⟩ = some (.int .i64 l[i]) := by
  have hr : Rd w (fun _ => True) 1 A l.length (l.map (Value.int .i64)) := Rd.of_own h (fun _ _ _ => trivial)
  obtain ⟨b, off, hA, _, hb, hc⟩ := hr.2 (by omega)
  exact ⟨b, off, hA, hb, hc i _ (by rw [List.getElem?_map, List.getElem?_eq_getElem hi]; rfl)⟩
theorem used_take (L : List (Int × FP)) (i : Nat) (hi : i < L.length) : usedS (L.take (i + 1)) = usedS (L.take i) + L[i].2.1.length := by
  unfold usedS
  rw [List.take_succ_eq_append_getElem hi, List.map_append, List.sum_append]
  simp
theorem used_le (L : List (Int × FP)) (i : Nat) : usedS (L.take i) ≤ usedS L := by
  conv => rhs; rw [← List.take_append_drop i L]
  unfold usedS
  rw [List.map_append, List.sum_append]
  omega
set_option maxRecDepth 100000 in
set_option maxHeartbeats 1000000 in
theorem used_any (tb mb : Nat) (L : List (Int × FV)) (D : DP) (k : Nat) (w : World) (h : DiskAt w tb mb L D) (hok : DOk D k) (hk : k ≤ 1000000) :
    Calls Try.prog 22 #[.pointer (some ⟨tb, 0, none⟩)] w fun e w' => e = .returned (.int .i64 (usedS D.L : Int)) ∧ Below w.heap.size w w' := by
  have hlen : L.length ≤ 1000000 := by have := hok.len; rw [← h.plain.out, plainD_len] at this; omega
  have HF := Lib.hid (files_any tb mb L D w h hlen)
  have HD := Lib.hid h
  have HO := Lib.hid hok
  have hfd := fun v1 v2 W => file_fld0 v1 v2 W
  have hsort : SortZ L := by
    have := hok.sort
    rw [← h.plain.out] at this
    unfold SortZ at this ⊢
    rwa [keys_plainD] at this
  have hwf : ∀ x ∈ L, (Lit.int .i64 x.1).wf = true := fun x hx => h.map.wf (x.1, x.2.v) (List.mem_map.2 ⟨x, hx, rfl⟩)
  have HSR := Lib.hid hsort
  have HWF := Lib.hid hwf
  clear h hok hsort hwf
  go_enter Try.func22, Try.ntmps22
  go_wp2_with fail
  refine HF.out.mono ?_
  rintro e w1 ⟨A, c, rfl, hr, hb1⟩
  have HR := Lib.hid hr
  have hkl : (keysZ L).length = L.length := keysZ_len L
  have HKL := Lib.hid hkl
  clear hr hkl
  go_wp2_with fail
  go_loopw [2, 8] (fun sv iv wr => ∃ (i n : Nat), i ≤ L.length ∧ iv = .int .i64 (i : Int) ∧ sv = .int .i64 (n : Int) ∧ Hid (n = usedS ((plainD L).take i)) ∧ wr = w1) (fun _ iv _ => L.length - (intOf iv).toNat)
  case atStart => exact ⟨0, 0, Nat.zero_le _, rfl, rfl, by show _ = _; simp [usedS], rfl⟩
  case round =>
    obtain ⟨i, n, hi, rfl, rfl, hn, rfl⟩ := hrel
    by_cases hlt : i < L.length
    · have hr := HR.out
      rw [← HKL.out] at hr
      obtain ⟨b, off, hA, hbb, c0⟩ := int_at hr (i := i) (by rw [HKL.out]; exact hlt)
      have hki : (keysZ L)[i]'(by rw [HKL.out]; exact hlt) = L[i].1 := by simp [keysZ]
      rw [hki] at c0
      have hD1 := HD.out.below hb1
      obtain ⟨c1, _⟩ := hD1.cells
      have hl := hD1.look L[i].1 (HWF.out _ (List.getElem_mem hlt))
      have hg : getZ L L[i].1 = some L[i].2 := HSR.out.get (List.getElem_mem hlt)
      rw [hg] at hl
      have htk := used_take (plainD L) i (by rw [plainD_len]; exact hlt)
      have hpi : (plainD L)[i]'(by rw [plainD_len]; exact hlt) = (L[i].1, L[i].2.p) := by simp [plainD]
      rw [hpi] at htk
      have hle := used_le (plainD L) (i + 1)
      rw [HD.out.plain.out] at hle
      have hrm := HO.out.room
      have hbd : n + L[i].2.x.l.length ≤ 1048576 := by
        have h1 := hn.out
        have h3 : (L[i].1, L[i].2.p).2.1.length = L[i].2.x.l.length := rfl
        rw [h3] at htk
        rw [HD.out.plain.out] at htk h1
        omega
      have HN : Hid (n + L[i].2.x.l.length = usedS ((plainD L).take (i + 1))) := Lib.hid (by rw [htk, ← hn.out]; rfl)
      subst hA
      obtain ⟨x, hx⟩ : ∃ x, x = L[i] := ⟨_, rfl⟩
      rw [← hx] at c0 hl hbd HN
      obtain ⟨m, f⟩ := x
      simp only [fileO, FV.v] at hl
      dsimp only at c0 hl hbd HN
      clear hr hki hD1 hg htk hpi hle hrm hx hn
      go_wp2_with fail
      go_roundw
      case rel => exact ⟨i + 1, n + f.x.l.length, hlt, by go_num, by go_num, HN.out, trivial⟩
      case measure => simp [intOf]; omega
    · have e : i = L.length := by omega
      subst e
      have hn2 : n = usedS D.L := by rw [hn.out, ← plainD_len, List.take_length, HD.out.plain.out]
      rw [hn2]
      go_wp2_with fail
      go_ret
      exact ⟨rfl, hb1⟩
end Go.Proofs.Ytmdbfhfjaapeoaa

/- Drawn regions whose operations each yield ONE value and at most make memory: one walk in the order of the text, in worlds above the one at hand; the variable that is made behind them may be made at any time. No program. -/
namespace Go.Proofs.Ytmdbfhfjaapeoaa
open Go.RowKit

section
variable {P : Program} {ops : Array Oper} {md : Region.Mode} {W : World}

/-- In state a, in every world above W, the operation yields v, and makes memory at most. -/
def YB (P : Program) (ops : Array Oper) (W : World) (o : Oper) (v : Value) (a : Act) : Prop :=
  (Region.wanted o (yielded ops a.tmps) = true ∧ ∀ w, Below W.heap.size W w → (execOp a.eval o).run P w = .ok (.value v) w ∨
    ∃ f args, (execOp a.eval o).run P w = .ok (.enter f args) w ∧ Calls P f args w fun e w' => e = .returned v ∧ Below w.heap.size w w') ∨
  (Region.wanted o (yielded ops a.tmps) = false ∧ v = undef)
theorem YB.of_same {o : Oper} {v : Value} {a a' : Act} (hy : YB P ops W o v a) (he : execOp a'.eval o = execOp a.eval o)
    (hw : Region.wanted o (yielded ops a'.tmps) = Region.wanted o (yielded ops a.tmps)) : YB P ops W o v a' := by
  unfold YB at *
  rw [he, hw]
  exact hy
theorem YB.wpOp {i : Nat} {o : Oper} {v : Value} {a : Act} {w : World} {K : Act → World → Prop} {Q : Exit → Act → World → Prop} (hi : ops[i]? = some o) (hy : YB P ops W o v a) (hw : Below W.heap.size W w)
    (hK : ∀ w', Below w.heap.size w w' → K (a.put o.dst v) w') : wpOp P ops Q i K a w := by
  unfold Go.wpOp
  simp only [hi]
  rcases hy with ⟨hwt, hv⟩ | ⟨hwt, rfl⟩
  · simp only [hwt, if_true]
    refine .inl ?_
    unfold Oper.wp
    rcases hv w hw with e | ⟨f, args, e, hc⟩
    · rw [e]
      exact hK w (Below.refl _ _)
    · rw [e]
      exact hc.mono fun e w' ⟨he, hb⟩ => by subst he; exact hK w' hb
  · simp only [hwt, Bool.false_eq_true, if_false]
    exact hK w (Below.refl _ _)

inductive DetB (P : Program) (md : Region.Mode) (ops : Array Oper) (W : World) (n : Nat) (E : Array Bool → Act → Prop) : Nat → Array Bool → Act → Prop
  | done {listed : Array Bool} {a : Act} : (∀ j ∈ Region.ready md ops listed, n ≤ j) → E listed a → DetB P md ops W n E 0 listed a
  | step {k i : Nat} {listed : Array Bool} {a : Act} {o : Oper} {v : Value} : ops[i]? = some o → i < n → HeadInv md ops n listed → i ∈ Region.ready md ops listed →
      (∀ j oj, ops[j]? = some oj → j ≠ i → listed.getD j true = false → (∀ e ∈ oj.after, Region.binds md e = true → e.on ≠ i) → o.apart ops oj = true) →
      YB P ops W o v a → DetB P md ops W n E k (listed.setIfInBounds i true) (a.put o.dst v) → DetB P md ops W n E (k + 1) listed a
def TailWaitsB (md : Region.Mode) (ops : Array Oper) (n : Nat) : Prop :=
  ∀ listed, HeadInv md ops n listed → ∀ i, i < n → listed.getD i true = false → ∀ t ∈ Region.ready md ops listed, t < n

theorem DetB.any {n : Nat} {E : Array Bool → Act → Prop} (hsel : ∀ (j : Nat) (o : Oper) cs b, ops[j]? = some o → o.op ≠ .select cs b) (hT : TailWaitsB md ops n) :
    ∀ {k : Nat} {listed : Array Bool} {a : Act}, DetB P md ops W n E (k + 1) listed a →
      Region.ready md ops listed ≠ [] ∧ HeadInv md ops n listed ∧ ∀ j ∈ Region.ready md ops listed, j < n ∧ ∃ o v, ops[j]? = some o ∧ YB P ops W o v a ∧ DetB P md ops W n E k (listed.setIfInBounds j true) (a.put o.dst v) := by
  intro k
  induction k with
  | zero =>
    intro listed a h
    cases h with
    | @step _ i _ _ o v ho hin inv hr hap hy hd =>
      refine ⟨fun h => (by rw [h] at hr; cases hr), inv, fun j hj => ⟨hT _ inv i hin (mem_ready.1 hr).1 j hj, ?_⟩⟩
      by_cases hji : j = i
      · subst hji; exact ⟨o, v, ho, hy, hd⟩
      · cases hd with
        | done hge _ => have h1 := hT _ inv i hin (mem_ready.1 hr).1 j hj; have h2 := hge j (ready_mono hj hji); omega
  | succ k ih =>
    intro listed a h
    cases h with
    | @step _ i _ _ o v ho hin inv hr hap hy hd =>
      refine ⟨fun h => (by rw [h] at hr; cases hr), inv, fun j hj => ⟨hT _ inv i hin (mem_ready.1 hr).1 j hj, ?_⟩⟩
      by_cases hji : j = i
      · subst hji; exact ⟨o, v, ho, hy, hd⟩
      · obtain ⟨_, _, h2⟩ := ih hd
        obtain ⟨_, oj, u, hoj, hyj, hdj⟩ := h2 j (ready_mono hj hji)
        obtain ⟨hjun, oj', hoj', hall⟩ := mem_ready.1 hj
        obtain rfl : oj' = oj := Option.some.inj (hoj'.symm.trans hoj)
        have hun := (mem_ready.1 hr).1
        have hnot : ∀ e ∈ oj'.after, Region.binds md e = true → e.on ≠ i := fun e he hb heq => by
          have h1 := hall e he hb
          rw [heq, getD_both hun] at h1
          cases h1
        obtain ⟨a1, a2, a3⟩ := Oper.apart_spec (hap j oj' hoj hji hjun hnot)
        have hyj' := hyj.of_same (a' := a) (execOp_put oj' (fun cs b => hsel j oj' cs b hoj) a o.dst v a1).symm (wanted_put oj' a o.dst v a1).symm
        have hyi' := hy.of_same (a' := a.put oj'.dst u) (execOp_put o (fun cs b => hsel i o cs b ho) a oj'.dst u a3) (wanted_put o a oj'.dst u a3)
        refine ⟨oj', u, hoj, hyj', ?_⟩
        rw [Act.put_comm a v u a2, Array.setIfInBounds_comm _ _ (Ne.symm hji)] at hdj
        refine .step ho hin (inv.set hj (hT _ inv i hin hun j hj)) (ready_mono hr (Ne.symm hji)) ?_ hyi' hdj
        intro m om hm hmi hmun hmno
        refine hap m om hm hmi ?_ hmno
        by_cases hmj : j = m
        · subst hmj; exact hjun
        · rw [getD_set_ne true hmj] at hmun; exact hmun

theorem wpAny_of_detB {n g : Nat} {E : Array Bool → Act → Prop} {Q : Exit → Act → World → Prop} (hsel : ∀ (j : Nat) (o : Oper) cs b, ops[j]? = some o → o.op ≠ .select cs b) (hT : TailWaitsB md ops n)
    (hE : ∀ listed a w, E listed a → Below W.heap.size W w → wpAny P md ops Q g listed a w) :
    ∀ (k : Nat) (listed : Array Bool) (a : Act) (w : World), DetB P md ops W n E k listed a → Below W.heap.size W w → wpAny P md ops Q (k + g) listed a w
  | 0, listed, a, w, h, hw => by
    rw [Nat.zero_add]
    cases h with
    | done _ h => exact hE _ _ _ h hw
  | k + 1, listed, a, w, h, hw => by
    obtain ⟨h1, _, h2⟩ := DetB.any hsel hT h
    rw [show k + 1 + g = (k + g) + 1 by omega]
    refine ⟨fun h0 => absurd h0 h1, fun j hj => ?_⟩
    obtain ⟨_, o, v, ho, hy, hd⟩ := h2 j hj
    exact hy.wpOp ho hw fun w' hb => wpAny_of_detB hsel hT hE k _ _ w' hd (hw.trans (hb.mono hw.size))

/-- a world above W in which the block b was made -/
structure Made (W : World) (t : TypeId) (cs : Array Value) (b : Nat) (w : World) : Prop where
  below : Below W.heap.size W w
  ge : W.heap.size ≤ b
  blk : Blk w b t cs
theorem Made.step {t : TypeId} {cs : Array Value} {b : Nat} {w w' : World} (h : Made W t cs b w) (k : Below w.heap.size w w') : Made W t cs b w' :=
  ⟨h.below.trans (k.mono h.below.size), h.ge, h.blk.below k⟩

variable {f : Nat} {of : Oper} {t : TypeId} {cs : Array Value}
/-- behind the float: its pointer stands in every frame that follows -/
theorem float_behind {n g : Nat} {E : Array Bool → Act → Prop} {Q : Exit → Act → World → Prop} (hsel : ∀ (j : Nat) (o : Oper) cs b, ops[j]? = some o → o.op ≠ .select cs b) (hT : TailWaitsB md ops n)
    (hap : ∀ j o, ops[j]? = some o → j < n → j ≠ f → of.apart ops o = true) (b : Nat)
    (hE : ∀ listed a w, E listed a → Made W t cs b w → wpAny P md ops Q g listed (a.put of.dst (.pointer (some ⟨b, 0, none⟩))) w) :
    ∀ (k : Nat) (listed : Array Bool) (a : Act) (w : World), DetB P md ops W n E k listed a → listed.getD f false = true → Made W t cs b w → wpAny P md ops Q (k + g) listed (a.put of.dst (.pointer (some ⟨b, 0, none⟩))) w
  | 0, listed, a, w, h, _, hw => by
    rw [Nat.zero_add]
    cases h with
    | done _ h => exact hE _ _ _ h hw
  | k + 1, listed, a, w, h, hf, hw => by
    obtain ⟨h1, _, h2⟩ := DetB.any hsel hT h
    rw [show k + 1 + g = (k + g) + 1 by omega]
    refine ⟨fun h0 => absurd h0 h1, fun j hj => ?_⟩
    obtain ⟨hjn, o, v, ho, hy, hd⟩ := h2 j hj
    have hjf : j ≠ f := fun e => by
      subst e
      have := getD_both (mem_ready.1 hj).1
      rw [hf] at this
      cases this
    obtain ⟨a1, a2, a3⟩ := Oper.apart_spec (hap j o ho hjn hjf)
    have hy' := hy.of_same (a' := a.put of.dst (.pointer (some ⟨b, 0, none⟩))) (execOp_put o (fun cs b => hsel j o cs b ho) a of.dst _ a1) (wanted_put o a of.dst _ a1)
    refine hy'.wpOp ho hw.below fun w' hb => ?_
    have := float_behind hsel hT hap b hE k _ _ w' hd (getD_set_true hf) (hw.step hb)
    rw [Act.put_comm a _ v a2]
    exact this

/-- ahead of the float: it may come up at any time -/
theorem float_ahead {n g : Nat} {E : Array Bool → Act → Prop} {Q : Exit → Act → World → Prop} (hsel : ∀ (j : Nat) (o : Oper) cs b, ops[j]? = some o → o.op ≠ .select cs b) (hT : TailWaitsB md ops n)
    (hap : ∀ j o, ops[j]? = some o → j < n → j ≠ f → of.apart ops o = true) (hof : ops[f]? = some of) (hfn : f < n) (hno : of.after.all (fun e => !Region.binds md e) = true)
    (hal : ∀ (a : Act) (w : World), Region.wanted of (yielded ops a.tmps) = true ∧ (execOp a.eval of).run P w = .ok (.value (.pointer (some ⟨w.heap.size, 0, none⟩))) (w.alloc (.cells cs t)))
    (hE : ∀ b listed a w, E listed a → Made W t cs b w → wpAny P md ops Q g listed (a.put of.dst (.pointer (some ⟨b, 0, none⟩))) w) :
    ∀ (k : Nat) (listed : Array Bool) (a : Act) (w : World), DetB P md ops W n E k (listed.setIfInBounds f true) a → HeadInv md ops n listed → listed.getD f true = false → Below W.heap.size W w → wpAny P md ops Q (k + g + 1) listed a w := by
  intro k
  induction k with
  | zero =>
    intro listed a w h inv hf hw
    have hr : f ∈ Region.ready md ops listed := mem_ready.2 ⟨hf, of, hof, fun e he hb => by
      have := Array.all_eq_true_iff_forall_mem.1 hno e he
      rw [hb] at this
      cases this⟩
    have hfs : f < listed.size := by rw [inv.size]; exact (Array.getElem?_eq_some_iff.1 hof).1
    refine ⟨fun h0 => (by rw [h0] at hr; cases hr), fun j hj => ?_⟩
    by_cases hjf : j = f
    · subst hjf
      unfold wpOp
      simp only [hof, (hal a w).1, if_true]
      refine .inl ?_
      unfold Oper.wp
      rw [(hal a w).2]
      exact float_behind hsel hT hap _ (hE _) 0 _ _ _ h (by simp [hfs]) ⟨hw.alloc hw.size _, hw.size, Blk.new w t cs⟩
    · cases h with
      | done hge _ => have h1 := hge j (ready_mono hj hjf); have h2 := hT _ inv f hfn hf j hj; omega
  | succ k ih =>
    intro listed a w h inv hf hw
    have hr : f ∈ Region.ready md ops listed := mem_ready.2 ⟨hf, of, hof, fun e he hb => by
      have := Array.all_eq_true_iff_forall_mem.1 hno e he
      rw [hb] at this
      cases this⟩
    have hfs : f < listed.size := by rw [inv.size]; exact (Array.getElem?_eq_some_iff.1 hof).1
    refine ⟨fun h0 => (by rw [h0] at hr; cases hr), fun j hj => ?_⟩
    by_cases hjf : j = f
    · subst hjf
      unfold wpOp
      simp only [hof, (hal a w).1, if_true]
      refine .inl ?_
      unfold Oper.wp
      rw [(hal a w).2]
      exact float_behind hsel hT hap _ (hE _) (k + 1) _ _ _ h (by simp [hfs]) ⟨hw.alloc hw.size _, hw.size, Blk.new w t cs⟩
    · obtain ⟨_, _, h2⟩ := DetB.any hsel hT h
      obtain ⟨hjn, o, v, ho, hy, hd⟩ := h2 j (ready_mono hj hjf)
      rw [show k + 1 + g = k + g + 1 by omega]
      refine hy.wpOp ho hw fun w' hb => ?_
      rw [Array.setIfInBounds_comm _ _ (Ne.symm hjf)] at hd
      exact ih _ _ w' hd (inv.set hj hjn) (by rw [getD_set_ne true hjf]; exact hf) (hw.trans (hb.mono hw.size))

/-- the check: so many operations from k on, each ready and free; then the tail from n on, one behind the other -/
def headF (md : Region.Mode) (ops : Array Oper) (g n : Nat) : Nat → Nat → Array Bool → Bool
  | 0, _, listed => Region.seqB md ops g n listed
  | m + 1, k, listed => (Region.ready md ops listed).contains k && Region.free md ops listed k && headF md ops g n m (k + 1) (listed.setIfInBounds k true)

/-- the walk in the text's order; nobody looks into it -/
inductive WalkB (P : Program) (ops : Array Oper) (W : World) (Q : Act → Prop) : List Oper → Act → Prop
  | nil {a : Act} : Q a → WalkB P ops W Q [] a
  | cons {o : Oper} {rest : List Oper} {a : Act} {v : Value} : YB P ops W o v a → WalkB P ops W Q rest (a.put o.dst v) → WalkB P ops W Q (o :: rest) a

theorem detB_lex {n g : Nat} {Lq : Act → Prop} :
    ∀ (l : List Oper) (k : Nat) (listed : Array Bool) (a : Act), (∀ j, j < l.length → l[j]? = ops[k + j]?) → k + l.length ≤ n → HeadInv md ops n listed →
    headF md ops g n l.length k listed = true → WalkB P ops W Lq l a →
    DetB P md ops W n (fun listed' a' => Region.seqB md ops g n listed' = true ∧ Lq a') l.length listed a
  | [], k, listed, a, _, _, _, hB, h => by
    have hs : Region.seqB md ops g n listed = true := by simpa [headF] using hB
    cases h with
    | nil h => exact .done (seqB_ready hs) ⟨hs, h⟩
  | o :: l, k, listed, a, hl, hk, inv, hB, h => by
    have h0 : ops[k]? = some o := by simpa using (hl 0 (by simp)).symm
    simp only [List.length_cons, headF, Bool.and_eq_true] at hB
    obtain ⟨⟨hr, hf⟩, hB'⟩ := hB
    have hkn : k < n := by simp only [List.length_cons] at hk; omega
    have hr' : k ∈ Region.ready md ops listed := by simpa using hr
    cases h with
    | cons hy hd =>
      refine .step h0 hkn inv hr' (Region.free_spec h0 hf) hy ?_
      exact (detB_lex l (k + 1) _ _ (fun j hj => by have := hl (j + 1) (by simp; omega); simpa [Nat.add_assoc, Nat.add_comm 1 j] using this) (by simp only [List.length_cons] at hk; omega) (inv.set hr' hkn) hB' hd)

def tailOkB (ops : Array Oper) (n : Nat) : Bool := Region.noSelect ops && (decide (n = ops.size) || (decide (n < ops.size) && Region.sinkB .any ops n && Region.chainB .any ops n))
theorem tailOkB_spec {n : Nat} (h : tailOkB ops n = true) : Region.noSelect ops = true ∧ n ≤ ops.size ∧ TailWaitsB .any ops n := by
  simp only [tailOkB, Bool.and_eq_true, Bool.or_eq_true, decide_eq_true_eq] at h
  obtain ⟨hsel, hn⟩ := h
  refine ⟨hsel, ?_, ?_⟩
  · rcases hn with h | ⟨⟨h, _⟩, _⟩ <;> omega
  · intro listed inv i hi hun t ht
    rcases hn with h | ⟨⟨h, hs⟩, hc⟩
    · obtain ⟨_, o, ho, _⟩ := mem_ready.1 ht
      have := (Array.getElem?_eq_some_iff.1 ho).1
      omega
    · rcases Nat.lt_or_ge t n with h1 | h1
      · exact h1
      · exact absurd ht (tail_waits hs hc h inv _ i rfl hi hun t h1)
theorem inv_new (n : Nat) : HeadInv md ops n (Array.replicate ops.size false) :=
  ⟨by simp, fun j oj _ hl => (by rw [getD_replicate_false] at hl; cases hl), fun t _ ht => getD_in (by simpa using ht) (getD_replicate_false _ _)⟩

/-- n operations, then the rest one behind the other -/
theorem wp_region_b {id : Nat} {Q : Exit → Act → World → Prop} {a : Act} {w : World} {l : List Oper} (n : Nat) (hm : P.follows .mixedOrders = true)
    (hB : (tailOkB l.toArray n && headF .any l.toArray (l.toArray.size - n) n n 0 (Array.replicate l.toArray.size false)) = true)
    (h : WalkB P l.toArray w (fun a' => ∀ w', Below w.heap.size w w' → wpList P l.toArray Q (l.drop n) a' w') (l.take n) a) : (Code.region id l.toArray true).wp P Q a w := by
  rw [Bool.and_eq_true] at hB
  obtain ⟨hok, hlex⟩ := hB
  obtain ⟨hsel, hnl, hT⟩ := tailOkB_spec hok
  have htl : (l.take n).length = n := by simp at hnl ⊢; omega
  have hdl : (l.drop n).length = l.toArray.size - n := by simp
  have H := detB_lex (P := P) (md := .any) (W := w) (n := n) (g := l.toArray.size - n) (l.take n) 0 _ a (fun j hj => by
    have hj' : j < n := by rw [htl] at hj; exact hj
    simp [hj']) (by rw [htl]; omega) (inv_new n) (by rw [htl]; exact hlex) h
  refine wp_region_any hm ?_
  have := wpAny_of_detB (Q := Q) (g := l.toArray.size - n) (Region.noSelect_spec hsel) hT (fun listed a' w' hL hw => by
    have := wpAny_of_seq (md := .any) (Q' := Q) (l.drop n) n listed a' w' (fun j => by simp [List.getElem?_drop]) (by rw [hdl]; exact hL.1) (hL.2 w' hw)
    rwa [hdl] at this) _ _ _ w.drew H (Below.refl _ _).drew
  rw [htl, show n + (l.toArray.size - n) = l.toArray.size by omega] at this
  exact this

/-- n operations and, right behind them in the text, a variable that is made (at any time); then the rest one behind the other -/
theorem wp_region_f {id : Nat} {Q : Exit → Act → World → Prop} {a : Act} {w : World} {l : List Oper} (n : Nat) (t : TypeId) (cs : Array Value) {of : Oper} (hm : P.follows .mixedOrders = true) (hof : l[n]? = some of)
    (hB : (tailOkB l.toArray (n + 1) && headF .any l.toArray (l.toArray.size - (n + 1)) (n + 1) n 0 ((Array.replicate l.toArray.size false).setIfInBounds n true) && of.after.all (fun e => !Region.binds .any e) && (l.take n).all (fun o => of.apart l.toArray o) && of.guard.isNone) = true)
    (hal : ∀ (ρ : Operand → Value) (w : World), (execOp ρ of).run P w = .ok (.value (.pointer (some ⟨w.heap.size, 0, none⟩))) (w.alloc (.cells cs t)))
    (h : WalkB P l.toArray w (fun a' => ∀ b w', Made w t cs b w' → wpList P l.toArray Q (l.drop (n + 1)) (a'.put of.dst (.pointer (some ⟨b, 0, none⟩))) w') (l.take n) a) : (Code.region id l.toArray true).wp P Q a w := by
  simp only [Bool.and_eq_true] at hB
  obtain ⟨⟨⟨⟨hok, hlex⟩, hno⟩, hap⟩, hgd⟩ := hB
  obtain ⟨hsel, hnl, hT⟩ := tailOkB_spec hok
  have hnl' : n < l.length := by simp at hnl; omega
  have htl : (l.take n).length = n := by simp; omega
  have hdl : (l.drop (n + 1)).length = l.toArray.size - (n + 1) := by simp
  have hof' : l.toArray[n]? = some of := by simpa using hof
  have inv1 : HeadInv .any l.toArray (n + 1) ((Array.replicate l.toArray.size false).setIfInBounds n true) :=
    (inv_new (n + 1)).set (mem_ready.2 ⟨getD_in (by simpa using hnl') (getD_replicate_false _ _), of, hof', fun e he hb => by
      have := Array.all_eq_true_iff_forall_mem.1 hno e he
      rw [hb] at this
      cases this⟩) (by omega)
  have H := detB_lex (P := P) (md := .any) (W := w) (n := n + 1) (g := l.toArray.size - (n + 1)) (l.take n) 0 _ a (fun j hj => by
    have hj' : j < n := by rw [htl] at hj; exact hj
    simp [hj']) (by rw [htl]; omega) inv1 (by rw [htl]; exact hlex) h
  refine wp_region_any hm ?_
  have hwt : ∀ a : Act, Region.wanted of (yielded l.toArray a.tmps) = true := fun a => by
    have : of.guard = none := by simpa using hgd
    simp [Region.wanted, this]
  have := float_ahead (Q := Q) (f := n) (of := of) (t := t) (cs := cs) (g := l.toArray.size - (n + 1)) (Region.noSelect_spec hsel) hT (fun j o ho hj hjn => by
      have hjn' : j < n := by omega
      have ho' : (l.take n)[j]? = some o := by rw [List.getElem?_take]; simp [hjn']; simpa using ho
      exact List.all_eq_true.1 hap o (List.mem_of_getElem? ho')) hof' (by omega) hno (fun a w => ⟨hwt a, hal _ _⟩)
    (fun b listed a' w' hL hw => by
      have := wpAny_of_seq (md := .any) (Q' := Q) (l.drop (n + 1)) (n + 1) listed (a'.put of.dst (.pointer (some ⟨b, 0, none⟩))) w' (fun j => by simp [List.getElem?_drop]) (by rw [hdl]; exact hL.1) (hL.2 b w' hw)
      rwa [hdl] at this) _ _ _ w.drew H (inv_new (n + 1)) (getD_in (by simpa using hnl') (getD_replicate_false _ _)) (Below.refl _ _).drew
  rw [htl, show n + (l.toArray.size - (n + 1)) + 1 = l.toArray.size by simp at hnl ⊢; omega] at this
  exact this

variable {Q : Act → Prop} {a : Act} {o : Oper} {rest : List Oper}
theorem lb_skip (hw : Region.wanted o (yielded ops a.tmps) = false) (h : ∃ a', a.put o.dst undef = a' ∧ WalkB P ops W Q rest a') : WalkB P ops W Q (o :: rest) a := by
  obtain ⟨a', ha, h⟩ := h
  exact .cons (.inr ⟨hw, rfl⟩) (by rw [ha]; exact h)
theorem lb_val (hw : Region.wanted o (yielded ops a.tmps) = true) (h : ∃ v, (∀ w, Below W.heap.size W w → (execOp a.eval o).run P w = .ok (.value v) w) ∧ ∃ a', a.put o.dst v = a' ∧ WalkB P ops W Q rest a') : WalkB P ops W Q (o :: rest) a := by
  obtain ⟨v, hv, a', ha, h⟩ := h
  exact .cons (.inl ⟨hw, fun w hb => .inl (hv w hb)⟩) (by rw [ha]; exact h)
theorem lb_move (x : Operand) (hw : Region.wanted o (yielded ops a.tmps) = true) (hop : o.op = .move x) (h : ∃ v, a.eval x = v ∧ ∃ a', a.put o.dst v = a' ∧ WalkB P ops W Q rest a') : WalkB P ops W Q (o :: rest) a := by
  obtain ⟨v, hv, h⟩ := h
  exact lb_val hw ⟨v, fun w _ => by rw [BigFrame.run_move x hop, hv], h⟩
theorem lb_assign (x : Operand) (hw : Region.wanted o (yielded ops a.tmps) = true) (hop : o.op = .assign x) (h : ∃ v, a.eval x = v ∧ ∃ a', a.put o.dst v = a' ∧ WalkB P ops W Q rest a') : WalkB P ops W Q (o :: rest) a := by
  obtain ⟨v, hv, h⟩ := h
  exact lb_val hw ⟨v, fun w _ => by rw [BigFrame.run_assign x hop, hv], h⟩
theorem lb_call {v : Value} {f : FuncId} {args : Array Value} (hw : Region.wanted o (yielded ops a.tmps) = true) (hc : ∀ w, Below W.heap.size W w → Calls P f args w fun e w' => e = .returned v ∧ Below w.heap.size w w') (hv : ∀ w, (execOp a.eval o).run P w = .ok (.enter f args) w)
    (h : ∃ a', a.put o.dst v = a' ∧ WalkB P ops W Q rest a') : WalkB P ops W Q (o :: rest) a := by
  obtain ⟨a', ha, h⟩ := h
  exact .cons (.inl ⟨hw, fun w hb => .inr ⟨f, args, hv w, hc w hb⟩⟩) (by rw [ha]; exact h)
end
end Go.Proofs.Ytmdbfhfjaapeoaa

/- disk.Disk: count, Make. -/
namespace Go.Proofs.Ytmdbfhfjaapeoaa
open Go.RowKit Go.Maps

set_option maxRecDepth 100000 in
set_option maxHeartbeats 400000 in
/-- an error is not counted -/
theorem count_err (v : Option Addr) (g : Nat) (m : Int) (u : FrameMode) (w : World) (c0 : w.cell? ⟨g, 0, none⟩ = some (.int .i64 m)) (hm : (m == 0) = false) :
    CallsD Try.prog 26 #[.pointer v, .pointer (some ⟨g, 0, none⟩)] u w fun e u' w' => u' = u ∧ e = .returned (.tuple #[]) ∧ w' = w := by
  go_enter_d Try.func26, Try.ntmps26
  go_wp2_with fail
  go_end0
  exact ⟨rfl, rfl⟩
set_option maxRecDepth 100000 in
set_option maxHeartbeats 400000 in
theorem count_none (tb : Nat) (g : Nat) (l : Int) (u : FrameMode) (w : World) (c0 : w.cell? ⟨g, 0, none⟩ = some (.int .i64 0)) (c3 : w.cell? ⟨tb, 3, none⟩ = some (.int .i64 l)) (hl : ¬ 0 < l) :
    CallsD Try.prog 26 #[.pointer (some ⟨tb, 0, none⟩), .pointer (some ⟨g, 0, none⟩)] u w fun e u' w' => u' = u ∧ e = .returned (.tuple #[]) ∧ w' = w := by
  have hlb : decide (0 < l) = false := decide_eq_false hl
  go_enter_d Try.func26, Try.ntmps26
  go_wp2_with fail
  go_end0
  exact ⟨rfl, rfl⟩
set_option maxRecDepth 100000 in
set_option maxHeartbeats 400000 in
theorem count_one (tb : Nat) (g : Nat) (l : Int) (u : FrameMode) (w : World) (c0 : w.cell? ⟨g, 0, none⟩ = some (.int .i64 0)) (c3 : w.cell? ⟨tb, 3, none⟩ = some (.int .i64 l)) (f3 : w.frozen? ⟨tb, 3, none⟩ = false) (hl : 0 < l) (hb : l < 9223372036854775808) :
    CallsD Try.prog 26 #[.pointer (some ⟨tb, 0, none⟩), .pointer (some ⟨g, 0, none⟩)] u w fun e u' w' => u' = u ∧ e = .returned (.tuple #[]) ∧ w' = w.setCell ⟨tb, 3, none⟩ (.int .i64 (l - 1)) := by
  have hlb : decide (0 < l) = true := decide_eq_true hl
  have hw := IntWalk.wrap64_in (l - 1) ⟨by omega, by omega⟩
  go_enter_d Try.func26, Try.ntmps26
  go_wp2_with fail
  go_end0
  exact ⟨rfl, rfl⟩

/-- the cells of a disk written; the map as it was -/
theorem DiskAt.set {w w' : World} {tb mb : Nat} {L : List (Int × FV)} {D D' : DP} (h : DiskAt w tb mb L D) (k : Fr (fun g => g = tb) w w') (hb : Blk w' tb 52 #[.map (some mb), .int .i64 D'.last, .int .i64 D'.room, .int .i64 D'.left]) (hL : D'.L = D.L) : DiskAt w' tb mb L D' :=
  ⟨hb, h.map.block (k.block mb h.map.lt h.ne), fun x hx => ⟨((h.bytes (h.ok x hx).1).fr k (fun _ _ hz e => hz.2 (.inl e))).mono (fun _ _ _ => trivial), (h.ok x hx).2⟩, Lib.hid (h.plain.out.trans hL.symm)⟩
/-- the map written -/
theorem DiskAt.stored {w w' : World} {tb mb : Nat} {L K : List (Int × FV)} {D D' : DP} (h : DiskAt w tb mb L D) (hg : w.grownBy w' (some mb)) (hm : MapZ w' Try.prog 3 mb (mapD K)) (hK : ∀ x ∈ K, x.2.x.ok w (fun _ => True)) (hp : Hid (plainD K = D'.L)) (h1 : D'.last = D.last) (h2 : D'.room = D.room) (h3 : D'.left = D.left) : DiskAt w' tb mb K D' := by
  have f : Fr (fun g => g = mb) w w' := Fr.of_grown hg (fun k _ e => by injection e with e; exact e.symm)
  refine ⟨?_, hm, fun x hx => ⟨((h.bytes (hK x hx).1).fr f (fun _ _ hz e => hz.2 (.inr e))).mono (fun _ _ _ => trivial), (hK x hx).2⟩, hp⟩
  rw [h1, h2, h3]
  exact h.blk.grown hg (by simpa using h.ne)
theorem count_left (D : DP) : (countS D).L = D.L ∧ (countS D).last = D.last ∧ (countS D).room = D.room ∧ (countS D).left = if 0 < D.left then D.left - 1 else D.left := by
  unfold countS
  split
  · exact ⟨rfl, rfl, rfl, rfl⟩
  · exact ⟨rfl, rfl, rfl, rfl⟩
theorem i64_wf {n : Int} (h : -9223372036854775808 ≤ n ∧ n < 9223372036854775808) : (Lit.int .i64 n).wf = true := by
  have h1 : IntKind.i64.min = -9223372036854775808 := by decide
  have h2 : IntKind.i64.max = 9223372036854775807 := by decide
  simp only [Lit.wf, h1, h2, Bool.and_eq_true, decide_eq_true_eq]
  omega
/-- bytes do not lie where an error lies -/
theorem Blk.noBytes {w : World} {g : Nat} {m : Int} {Z : Nat → Prop} {A : Option Addr} {l : List UInt8} (h : Blk w g 28 #[.int .i64 m]) (hy : By w Z A l) : By w (fun b => ¬ (b = g)) A l := by
  refine ⟨hy.1, fun hn => ?_⟩
  obtain ⟨b, off, e, hz, hlt, hc⟩ := hy.2 hn
  refine ⟨b, off, e, fun eb => ?_, hlt, hc⟩
  subst eb
  rcases l with _ | ⟨x, l⟩
  · simp at hn
  · have h1 := hc 0 (bv x) rfl
    rw [h.cell] at h1
    rcases Nat.eq_zero_or_pos (off + 0) with h0 | h0
    · rw [h0] at h1; simp [bv] at h1
    · rw [Array.getElem?_eq_none (by simp; omega)] at h1; cases h1
/-- a call that is counted, at the door -/
theorem count_any (tb mb g : Nat) (L : List (Int × FV)) (D : DP) (u : FrameMode) (w : World) (h : DiskAt w tb mb L D) (c0 : w.cell? ⟨g, 0, none⟩ = some (.int .i64 0)) (hb : D.left < 9223372036854775808) :
    CallsD Try.prog 26 #[.pointer (some ⟨tb, 0, none⟩), .pointer (some ⟨g, 0, none⟩)] u w fun e u' w' => u' = u ∧ e = .returned (.tuple #[]) ∧ DiskAt w' tb mb L (countS D) ∧ Fr (fun x => x = tb) w w' ∧ (g ≠ tb → w'.cell? ⟨g, 0, none⟩ = some (.int .i64 0)) := by
  obtain ⟨_, _, _, c3⟩ := h.cells
  by_cases hl : 0 < D.left
  · refine (count_one tb g D.left u w c0 c3 (h.blk.frozen 3) hl hb).mono ?_
    rintro e u' w' ⟨rfl, rfl, rfl⟩
    have k : Fr (fun x => x = tb) w (w.setCell ⟨tb, 3, none⟩ (.int .i64 (D.left - 1))) := (Fr.refl (fun x => x = tb) w).setAt tb 3 rfl _
    refine ⟨rfl, rfl, h.set k ?_ (by unfold countS; rw [if_pos hl]), k, fun hne => ?_⟩
    · have := h.blk.set_ 3 (.int .i64 (D.left - 1))
      unfold countS
      rw [if_pos hl]
      simpa using this
    · exact (World.cell?_of_block (w := w) (k.block g (by
        have h5 : w.heap[g]? ≠ none := fun e => by simp [World.cell?, e] at c0
        rcases Nat.lt_or_ge g w.heap.size with h6 | h6
        · exact h6
        · exact absurd (Array.getElem?_eq_none h6) h5) hne)).trans c0
  · refine (count_none tb g D.left u w c0 c3 hl).mono ?_
    rintro e u' w' ⟨rfl, rfl, rfl⟩
    refine ⟨rfl, rfl, ?_, Fr.refl _ _, fun _ => c0⟩
    unfold countS
    rw [if_neg hl]
    exact h

set_option maxRecDepth 100000 in
set_option maxHeartbeats 1000000 in
theorem make_any (tb mb : Nat) (L : List (Int × FV)) (D : DP) (k : Nat) (w : World) (h : DiskAt w tb mb L D) (hok : DOk D k) (hk : k ≤ 1000000) :
    Calls Try.prog 9 #[.pointer (some ⟨tb, 0, none⟩)] w fun e w' => e = .returned (.tuple #[.int .i64 (makeS D).2.1, .int .i64 (makeS D).2.2]) ∧ DiskTo w tb mb (makeS D).1 w' := by
  have hb0 : Below w.heap.size w (w.alloc (.cells #[.int .i64 0] 28)) := (by repeat (first | exact Below.refl _ _ | refine Below.alloc ?_ (by simp) _ | refine Below.setCell ?_ (by simp) _ | refine Below.drew ?_))
  have h0 := h.below hb0
  have HNO := Lib.hid (none_any tb mb L D _ h0)
  obtain ⟨c0, c1, c2, c3⟩ := h0.cells
  have htl := h.blk.lt
  have hll := hok.last
  have hlen : L.length ≤ 1000000 := by have := hok.len; rw [← h.plain.out, plainD_len] at this; omega
  have HD := Lib.hid h
  have HO := Lib.hid hok
  by_cases hl : D.left = 0
  · have hm : makeS D = (D, 0, 25) := by unfold makeS; rw [if_pos hl]
    rw [hm]
    rw [hl] at c3
    clear h h0 hok hm
    go_enter_defers Try.func9, Try.ntmps9
    go_wp2_with fail
    refine HNO.out.mono ?_
    rintro e w1 ⟨rfl, rfl⟩
    go_wp2_with fail
    have ce : (w.alloc (.cells #[.int .i64 25] 28)).cell? ⟨w.heap.size, 0, none⟩ = some (.int .i64 25) := (Blk.new w 28 #[.int .i64 25]).cell 0
    have hb9 : Below w.heap.size w (w.alloc (.cells #[.int .i64 25] 28)) := (by repeat (first | exact Below.refl _ _ | refine Below.alloc ?_ (by simp) _ | refine Below.setCell ?_ (by simp) _ | refine Below.drew ?_))
    refine leaves_cons (f := 26) (args := #[.pointer (some ⟨tb, 0, none⟩), .pointer (some ⟨w.heap.size, 0, none⟩)]) (by simp) (by simp [go_sem]) ?_
    refine (count_err _ w.heap.size 25 .returning _ ce rfl).mono ?_
    rintro e u' w9 ⟨rfl, rfl, rfl⟩
    refine ⟨.tuple #[.int .i64 0, .int .i64 25], ?_, rfl, DiskTo.of HD.out hb9⟩
    simp [results, Try.results9, go_sem, ce]
  · have hlb : (D.left == 0) = false := by simpa using hl
    obtain ⟨D', hD'⟩ : ∃ D', D' = (⟨putZ D.L (D.last + 1) ([], 0), D.last + 1, D.room, D.left⟩ : DP) := ⟨_, rfl⟩
    have hm : makeS D = (countS D', D.last + 1, 0) := by unfold makeS; rw [if_neg hl, hD']
    rw [hm]
    have hw := IntWalk.wrap64_in (D.last + 1) ⟨by omega, by omega⟩
    have f1 : w.frozen? ⟨tb, 1, none⟩ = false := h.blk.frozen 1
    have k6 : Fr (fun g => g = tb) w ((w.setCell ⟨tb, 1, none⟩ (.int .i64 (D.last + 1))).alloc (.cells #[.int .i64 0] 28)) := ((Fr.refl (fun g => g = tb) w).setAt tb 1 rfl _).alloc _
    have h6 : DiskAt ((w.setCell ⟨tb, 1, none⟩ (.int .i64 (D.last + 1))).alloc (.cells #[.int .i64 0] 28)) tb mb L ⟨D.L, D.last + 1, D.room, D.left⟩ := h.set k6 (by simpa using (h.blk.set_ 1 (.int .i64 (D.last + 1))).alloc (.cells #[.int .i64 0] 28)) rfl
    have x6 : Blk ((w.setCell ⟨tb, 1, none⟩ (.int .i64 (D.last + 1))).alloc (.cells #[.int .i64 0] 28)) w.heap.size 28 #[.int .i64 0] := by simpa [World.setCell] using Blk.new (w.setCell ⟨tb, 1, none⟩ (.int .i64 (D.last + 1))) 28 #[.int .i64 0]
    have hne : w.heap.size ≠ tb := by omega
    have hll2 := hok.left
    have H6 := Lib.hid h6
    have K6 := Lib.hid k6
    have X6 := Lib.hid x6
    have b6 := h6.blk
    clear h h0 hok hm hl h6 k6 x6
    go_enter_defers Try.func9, Try.ntmps9
    go_wp2_with fail
    refine HNO.out.mono ?_
    rintro e w1 ⟨rfl, rfl⟩
    go_wp2_with fail
    generalize (w.setCell ⟨tb, 1, none⟩ (.int .i64 (D.last + 1))).alloc (.cells #[.int .i64 0] 28) = w6 at *
    refine wp_region_b 9 (by kernel_rfl) (by kernel_rfl) ?_
    simp only [List.take_succ_cons, List.take_zero, List.drop_succ_cons, List.drop_zero]
    refine lb_move _ (by kernel_rfl) rfl ⟨_, (by ((try simp [go_sem]); (try rfl); done)), _, (by (simp only [Act.put, List.setIfInBounds_toArray, List.set_cons_zero, List.set_cons_succ]; rfl)), ?_⟩
    refine lb_val (by kernel_rfl) ⟨_, (by (intro w' hC; clear hC; (try go_simp); (try with_reducible rfl); done)), _, (by (simp only [Act.put, List.setIfInBounds_toArray, List.set_cons_zero, List.set_cons_succ]; rfl)), ?_⟩
    refine lb_val (by kernel_rfl) ⟨_, (by (intro w' hC; clear hC; (try go_simp); (try with_reducible rfl); done)), _, (by (simp only [Act.put, List.setIfInBounds_toArray, List.set_cons_zero, List.set_cons_succ]; rfl)), ?_⟩
    refine lb_val (by kernel_rfl) ⟨_, (by (intro w' hC; (have q0 := (b6.below hC).cell 0; simp only [List.getElem?_toArray, List.getElem?_cons_zero] at q0); clear hC; (try go_simp); (try with_reducible rfl); done)), _, (by (simp only [Act.put, List.setIfInBounds_toArray, List.set_cons_zero, List.set_cons_succ]; rfl)), ?_⟩
    refine lb_move _ (by kernel_rfl) rfl ⟨_, (by ((try simp [go_sem]); (try rfl); done)), _, (by (simp only [Act.put, List.setIfInBounds_toArray, List.set_cons_zero, List.set_cons_succ]; rfl)), ?_⟩
    refine lb_val (by kernel_rfl) ⟨_, (by (intro w' hC; clear hC; (try go_simp); (try with_reducible rfl); done)), _, (by (simp only [Act.put, List.setIfInBounds_toArray, List.set_cons_zero, List.set_cons_succ]; rfl)), ?_⟩
    refine lb_val (by kernel_rfl) ⟨_, (by (intro w' hC; clear hC; (try go_simp); (try with_reducible rfl); done)), _, (by (simp only [Act.put, List.setIfInBounds_toArray, List.set_cons_zero, List.set_cons_succ]; rfl)), ?_⟩
    refine lb_val (by kernel_rfl) ⟨_, (by (intro w' hC; (have q1 := (b6.below hC).cell 1; simp only [List.getElem?_toArray, List.getElem?_cons_zero, List.getElem?_cons_succ] at q1); clear hC; (try go_simp); (try with_reducible rfl); done)), _, (by (simp only [Act.put, List.setIfInBounds_toArray, List.set_cons_zero, List.set_cons_succ]; rfl)), ?_⟩
    refine lb_val (by kernel_rfl) ⟨_, (by (intro w' hC; clear hC; (try go_simp); (try with_reducible rfl); done)), _, (by (simp only [Act.put, List.setIfInBounds_toArray, List.set_cons_zero, List.set_cons_succ]; rfl)), ?_⟩
    refine .nil ?_
    intro w7 hb7
    have h7 := H6.out.below hb7
    have hmlen : (mapD L).length < maxLen := by rw [mapD_len]; simp only [maxLen]; omega
    obtain ⟨w8, hrun, hm8, hg8, _⟩ := h7.map.store Try.underlying3 Try.underlying50 (D.last + 1) (i64_wf ⟨by omega, by omega⟩) (.agg #[.slice none 0 0, .int .i64 0]) hmlen
    have h8 : DiskAt w8 tb mb (putZ L (D.last + 1) ⟨⟨none, 0, []⟩, 0⟩) D' := h7.stored hg8 (by rw [mapD_put]; exact hm8) (fun x hx => by
      rcases putZ_mem hx with rfl | hx
      · exact ⟨Rd.nil, by simp, by simp [maxLen]⟩
      · exact h7.ok x hx) (by show _ = _; rw [plainD_put, HD.out.plain.out, hD']; rfl) (by rw [hD']) (by rw [hD']) (by rw [hD'])
    have x8 := (X6.out.below hb7).grown hg8 (fun e => by injection e with e; have := h7.map.lt; have := H6.out.map.lt; have := HD.out.map.lt; omega)
    obtain ⟨d0, d1, d2, d3⟩ := h8.cells
    rw [hD'] at d1
    have fe := x8.frozen 0
    have ce0 := x8.cell 0
    simp only [List.getElem?_toArray, List.getElem?_cons_zero] at ce0
    have k8 : Fr (fun g => g = tb ∨ g = mb) w (w8.setCell ⟨w.heap.size, 0, none⟩ (.int .i64 0)) := (((K6.out.mono (S' := fun g => g = tb ∨ g = mb) (fun _ _ e => .inl e)).then_below hb7).trans (Fr.of_grown hg8 (S := fun g => g = mb) (fun _ _ e => by injection e with e; exact e.symm)) (fun _ _ e => .inr e)).trans ((Fr.refl (fun g => g = w.heap.size) w8).setAt w.heap.size 0 rfl _) (fun x hx e => by omega)
    have h9 : DiskAt (w8.setCell ⟨w.heap.size, 0, none⟩ (.int .i64 0)) tb mb (putZ L (D.last + 1) ⟨⟨none, 0, []⟩, 0⟩) D' := h8.fr ((Fr.refl (fun g => g = w.heap.size) w8).setAt w.heap.size 0 rfl _) (fun e => hne e.symm) (fun e => by have := HD.out.map.lt; omega) (fun x hx => (x8.noBytes (h8.ok x hx).1))
    have ce := (x8.set_ 0 (.int .i64 0)).cell 0
    simp only [List.setIfInBounds_toArray, List.set_cons_zero, List.getElem?_toArray, List.getElem?_cons_zero] at ce
    have H9 := Lib.hid h9
    have K9 := Lib.hid k8
    clear h7 h8 hm8 hg8 x8 k8 h9 hmlen K6 X6 H6 b6
    go_wp2_with fail
    refine leaves_cons (f := 26) (args := #[.pointer (some ⟨tb, 0, none⟩), .pointer (some ⟨w.heap.size, 0, none⟩)]) (by simp) (by simp [go_sem]) ?_
    refine (count_any tb mb w.heap.size _ D' .returning _ H9.out ce (by rw [hD']; exact hll2.2)).mono ?_
    rintro e u' w9 ⟨rfl, rfl, hd, hfr, hc⟩
    have hc9 := hc hne
    refine ⟨.tuple #[.int .i64 (D.last + 1), .int .i64 0], ?_, rfl, ⟨⟨_, (by rw [← hD']; exact hd)⟩, K9.out.trans hfr (fun _ _ e => .inl e)⟩⟩
    simp [results, Try.results9, go_sem, hc9]

end Go.Proofs.Ytmdbfhfjaapeoaa

/- Arguments opened: slices of whatever, structs, with the form's own reach. -/
namespace Go.Proofs.Ytmdbfhfjaapeoaa
open Go.RowKit Go.WideShapes Go.ChangeShapes Go.ChangeAt Go.Deep

theorem bv_of {m : Nat} (h : m < 256) : bv (UInt8.ofNat m) = .int .u8 (m : Int) := by
  unfold bv
  rw [UInt8.toNat_ofNat', Nat.mod_eq_of_lt h]

section
variable {H : Type} {enc : TypeId × Value → H} {w : World} {spare : Nat → Bool} {held : Bool}

/-- a reading within the form's reach -/
def Within (t : TypeId) (x : DataW H × List MemPlace) : Prop := ∀ k ∈ x.1.weights Try.prog t, k ≤ reachBytes

theorem weightsAll_mem {P : Program} {e : TypeId} {d : DataW H} {k : Nat} (hk : k ∈ d.weights P e) : ∀ {l : List (DataW H)}, d ∈ l → k ∈ DataW.weightsAll P e l
  | x :: l, h => by
    rw [DataW.weightsAll, List.mem_append]
    rcases List.mem_cons.1 h with rfl | h
    · exact .inl hk
    · exact .inr (weightsAll_mem hk h)

theorem pick_list {α : Type} {p : Nat → α → Prop} : ∀ n, (∀ i, i < n → ∃ a, p i a) → ∃ l : List α, l.length = n ∧ ∀ i (hi : i < l.length), p i l[i]
  | 0, _ => ⟨[], rfl, by simp⟩
  | k + 1, h => by
    obtain ⟨l, h1, h2⟩ := pick_list k (fun i hi => h i (by omega))
    obtain ⟨al, hal⟩ := h k (by omega)
    refine ⟨l ++ [al], by simp [h1], fun i hi => ?_⟩
    rcases Nat.lt_or_ge i l.length with hlt | hge
    · rw [List.getElem_append_left hlt]; exact h2 i hlt
    · have : i = k := by simp at hi; omega
      subst this
      rw [List.getElem_append_right (by omega)]
      simpa [h1] using hal

theorem flat_at {α : Type} (f : α → List Value) (k : Nat) : ∀ (l : List α), (∀ x ∈ l, (f x).length = k) → ∀ (i j : Nat) (hi : i < l.length), j < k → (l.flatMap f)[i * k + j]? = (f l[i])[j]?
  | x :: l, h, 0, j, _, hj => by
    rw [List.flatMap_cons, List.getElem?_append_left (by rw [h x (by simp)]; omega)]
    simp
  | x :: l, h, i + 1, j, hi, hj => by
    have hx := h x (by simp)
    have e : (i + 1) * k + j - (f x).length = i * k + j := by rw [hx, Nat.add_mul]; omega
    rw [List.flatMap_cons, List.getElem?_append_right (by rw [hx, Nat.add_mul]; omega), e, flat_at f k l (fun y hy => h y (by simp [hy])) i j (by simpa using hi) hj]
    simp

theorem open_sl {α : Type} (f : α → List Value) (ok : α → Prop) (sz by_ : Nat) {t e : TypeId} (ht : Try.prog.underlying t = some (.slice e)) (hC : Try.prog.cellsOf e = sz) (hB : Try.prog.bytesOf e = by_) (hsz : 0 < sz)
    (hel : ∀ (n : Nat) (cs : List Value) (x : DataW H × List MemPlace), DataW.trod enc Try.prog w 0 spare held n e cs = some x → Within e x → ∃ a, cs = f a ∧ ok a)
    {n : Nat} {v : Value} {x : DataW H × List MemPlace} (h : DataW.trod enc Try.prog w 0 spare held n t [v] = some x) (hw : Within t x) :
    ∃ (A : Option Addr) (c : Nat) (l : List α), v = .slice A l.length c ∧ l.length ≤ c ∧ c ≤ maxLen ∧ Rd w (fun b => b < w.heap.size) sz A l.length (l.flatMap f) ∧ (∀ a ∈ l, ok a) ∧ l.length * by_ ≤ reachBytes := by
  rcases open_slice ht h with ⟨hcs, _⟩ | ⟨a, len, cap, m, n', D, Pl, hcs, _, hl, hm, hmm, hx, hi⟩
  · obtain rfl := List.singleton_inj.1 hcs
    exact ⟨none, 0, [], rfl, Nat.le_refl _, by simp [maxLen], Rd.nil, by simp, by simp⟩
  · obtain rfl := List.singleton_inj.1 hcs
    have hlm : len ≤ m := by rw [hmm]; split <;> omega
    have hwt : ∀ k, k ∈ (len + (m - len)) * by_ :: (DataW.weightsAll Try.prog e ((List.range len).map D) ++ DataW.weightsAll Try.prog e ((List.range (m - len)).map fun j => D (len + j))) → k ≤ reachBytes := by
      intro k hk
      refine hw k ?_
      rw [hx]
      simp only [DataW.weights, ht, List.length_map, List.length_range, hB]
      exact hk
    have hch : ∀ i, i < len → ∃ al : α, ok al ∧ w.cells? 0 (a.add (i * sz)) sz = some (f al) := by
      intro i hil
      obtain ⟨cs', h1, h2⟩ := hi i (by omega)
      obtain ⟨al, rfl, hok⟩ := hel n' cs' _ h2 (fun k hk => hwt k (by
        refine List.mem_cons_of_mem _ (List.mem_append.2 (.inl (weightsAll_mem hk ?_)))
        exact List.mem_map.2 ⟨i, List.mem_range.2 hil, rfl⟩))
      rw [hC] at h1
      exact ⟨al, hok, h1⟩
    obtain ⟨l, rfl, hpl⟩ := pick_list len hch
    have hok : ∀ al ∈ l, ok al := by
      intro al hal
      obtain ⟨i, hil, rfl⟩ := List.getElem_of_mem hal
      exact (hpl i hil).1
    have hcells : ∀ i (hi : i < l.length), w.cells? 0 (a.add (i * sz)) sz = some (f l[i]) := fun i hil => (hpl i hil).2
    have hfl : ∀ i (hi : i < l.length), (f l[i]).length = sz ∧ ∀ j u, (f l[i])[j]? = some u → w.cell? ((a.add (i * sz)).add j) = some u := by
      intro i hi
      obtain ⟨_, hcl, hat⟩ := World.cells?_some (hcells i hi)
      refine ⟨hcl, fun j u hu => ?_⟩
      have hj : j < (f l[i]).length := (List.getElem?_eq_some_iff.1 hu).1
      rw [hat j (by omega), hu]
    refine ⟨some a, cap, l, rfl, by omega, hm, ?_, hok, ?_⟩
    · have hget : ∀ (l' : List α), (∀ x ∈ l', (f x).length = sz) → (l'.flatMap f).length = l'.length * sz := by
        intro l' h'
        induction l' with
        | nil => simp
        | cons x l' ih => rw [List.flatMap_cons, List.length_append, h' x (by simp), ih (fun y hy => h' y (by simp [hy])), List.length_cons, Nat.add_mul]; omega
      have hall : ∀ x ∈ l, (f x).length = sz := by
        intro x hx
        obtain ⟨i, hi, rfl⟩ := List.getElem_of_mem hx
        exact (hfl i hi).1
      refine ⟨hget l hall, fun hpos => ?_⟩
      have hl0 : 0 < l.length := Nat.pos_of_mul_pos_right hpos
      obtain ⟨u0, hu0⟩ : ∃ u, (f l[0])[0]? = some u := ⟨_, List.getElem?_eq_getElem (by rw [(hfl 0 hl0).1]; exact hsz)⟩
      have h0 := (hfl 0 hl0).2 0 u0 hu0
      have ha0 : (a.add (0 * sz)).add 0 = a := by simp [Addr.add]
      rw [ha0] at h0
      have hspot : a = ⟨a.block, a.off, none⟩ := by
        obtain ⟨b, o, s⟩ := a
        rcases s with _ | s
        · rfl
        · exfalso
          unfold World.cell? at h0
          split at h0 <;> simp at h0
      refine ⟨a.block, a.off, by rw [← hspot], World.block_lt_of_cell? w a h0, World.block_lt_of_cell? w a h0, fun j u hu => ?_⟩
      have hj := (List.getElem?_eq_some_iff.1 hu).1
      rw [hget l hall] at hj
      have hi : j / sz < l.length := by rw [Nat.div_lt_iff_lt_mul hsz]; exact hj
      have hjm : j = j / sz * sz + j % sz := by rw [Nat.mul_comm]; exact (Nat.div_add_mod j sz).symm
      have hg := flat_at f sz l hall (j / sz) (j % sz) hi (Nat.mod_lt _ hsz)
      rw [← hjm, hu] at hg
      have := (hfl _ hi).2 (j % sz) u hg.symm
      rw [hspot, add_none, add_none, Nat.add_assoc, ← hjm] at this
      exact this
    · have := hwt _ (List.mem_cons_self)
      refine Nat.le_trans (Nat.mul_le_mul_right _ ?_) this
      omega

theorem flat_single {α : Type} (g : α → Value) : ∀ l : List α, (l.flatMap fun a => [g a]) = l.map g
  | [] => rfl
  | x :: l => by rw [List.flatMap_cons, flat_single g l]; rfl

/-- a []byte -/
theorem open_bv {n : Nat} {v : Value} {x : DataW H × List MemPlace} (h : DataW.trod enc Try.prog w 0 spare held n 23 [v] = some x) (hw : Within 23 x) :
    ∃ b : BV, v = b.v ∧ b.ok w (fun b => b < w.heap.size) ∧ b.l.length ≤ 140737488355328 := by
  obtain ⟨A, c, l, rfl, h1, h2, h3, _, h5⟩ := open_sl (w := w) (enc := enc) (spare := spare) (held := held) (fun x : UInt8 => [bv x]) (fun _ => True) 1 1 (t := 23) (e := 5) Try.underlying23 (by kernel_rfl) (by kernel_rfl) (by omega)
    (fun n cs x hx _ => by
      obtain ⟨m, rfl, _, hwf⟩ := DataW.trod_int Try.underlying5 hx
      have hb := u8_bd hwf
      refine ⟨UInt8.ofNat m.toNat, ?_, trivial⟩
      rw [bv_of (by omega)]
      congr 2
      omega) h hw
  refine ⟨⟨A, c, l⟩, rfl, ⟨?_, h1, h2⟩, ?_⟩
  · rw [flat_single] at h3; exact h3
  · have := reachBytes_lt
    simp only at *
    omega

/-- a struct of one-cell fields, as an element or a parameter -/
theorem open_st {t : TypeId} {fs : Array Field} (hs : Try.prog.underlying t = some (.struct fs)) (hone : oneCellFields Try.prog fs = true)
    {n : Nat} {cs : List Value} {x : DataW H × List MemPlace} (h : DataW.trod enc Try.prog w 0 spare held n t cs = some x) (hC : Try.prog.cellsOf t = fs.size) (hw : Within t x) :
    ∃ (ys : List (DataW H × List MemPlace)) (n' : Nat), cs.length = fs.size ∧ ys.length = fs.size ∧
      ∀ (j : Nat) (f : Field) (c : Value) (y : DataW H × List MemPlace), fs[j]? = some f → cs[j]? = some c → ys[j]? = some y → DataW.trod enc Try.prog w 0 spare held n' f.type [c] = some y ∧ Within f.type y := by
  obtain ⟨xs, n', _, hx, hl, hlen, hg⟩ := DataW.trod_struct hs h
  rw [hC] at hl
  refine ⟨xs, n', hl, hlen, fun j f c y hj hc hy => ⟨?_, ?_⟩⟩
  · obtain ⟨ho, hk⟩ := hone_of hone j f hj
    have h1 := hg j f hj
    rw [ho, hk] at h1
    have hjl : j < cs.length := by have := (Array.getElem?_eq_some_iff.1 hj).1; omega
    have e : (cs.drop j).take 1 = [c] := by
      rw [List.drop_eq_getElem_cons hjl, List.take_succ_cons, List.take_zero]
      rw [List.getElem?_eq_getElem hjl] at hc
      simpa using hc
    rw [e] at h1
    rw [h1, hy]
  · intro k hk
    refine hw k ?_
    rw [hx]
    simp only [DataW.weights, hs]
    refine DataW.weights_mem_each (j := j) (t := f.type) (d := y.1) ?_ ?_ k hk
    · rw [List.getElem?_map]
      have : fs.toList[j]? = some f := by simpa using hj
      rw [this]; rfl
    · rw [List.getElem?_map, hy]; rfl

theorem list4 {α : Type} {l : List α} (h : l.length = 4) : ∃ a0 a1 a2 a3, l = [a0, a1, a2, a3] := by
  match l, h with
  | [a0, a1, a2, a3], _ => exact ⟨_, _, _, _, rfl⟩
theorem within_of {ts : List TypeId} {ds : List (DataW H)} {p : List MemPlace} (h : (DataW.weightsEach Try.prog ts ds).all (· ≤ reachBytes) = true) {j : Nat} {t : TypeId} {d : DataW H} (ht : ts[j]? = some t) (hd : ds[j]? = some d) : Within t (d, p) := by
  intro k hk
  have := List.all_eq_true.1 h _ (DataW.weights_mem_each ht hd k hk)
  simpa using this
end
end Go.Proofs.Ytmdbfhfjaapeoaa
