/- tenderlaw11.do. -/
import Derived.Test.YtmdbfhfjaapeoaaA07

namespace Go.Proofs.Ytmdbfhfjaapeoaa
open Go.RowKit Go.Maps

def stepS (D : DP) (o : OpD) : DP :=
  if o.kind = 1 then (makeS D).1 else if o.kind = 2 then (appendS D o.file o.x.l).1 else if o.kind = 3 then (syncS D o.file).1 else if o.kind = 4 then (dropD D o.file).1
  else if o.kind = 5 then D else if o.kind = 6 then stopS D o.n else if o.kind = 7 then crashS D o.K else D
def okS (D V : DP) (o : OpD) : Bool :=
  if o.kind = 1 then ((makeS D).2.1 == (makeS V).2.1 && (makeS D).2.2 == (makeS V).2.2) else if o.kind = 2 then (appendS D o.file o.x.l).2 == (appendS V o.file o.x.l).2 else if o.kind = 3 then (syncS D o.file).2 == (syncS V o.file).2
  else if o.kind = 4 then (dropD D o.file).2 == (dropD V o.file).2 else if o.kind = 5 then ((readS D o.file).2 == (readS V o.file).2 && (readS D o.file).1 == (readS V o.file).1) else true
theorem okS_same (D : DP) (o : OpD) : okS D D o = true := by
  unfold okS
  repeat' split
  all_goals simp
theorem DOk.step {D : DP} {k : Nat} (h : DOk D k) (o : OpD) (hn : o.n < 9223372036854775808) : DOk (stepS D o) (k + 1) := by
  unfold stepS
  repeat' split
  · exact h.make
  · exact (h.append _ _).mono (by omega)
  · exact (h.sync _).mono (by omega)
  · exact (h.drop _).mono (by omega)
  · exact h.mono (by omega)
  · exact (h.stop _ hn).mono (by omega)
  · exact (h.crash _).mono (by omega)
  · exact h.mono (by omega)
/-- bytes do not lie where the document's disk lies -/
theorem Blk.noBytesR {w : World} {g : Nat} {B : Option Addr} {m d : Nat} {i j k : Int} (hb : Blk w g 38 #[.slice B m d, .int .i64 i, .int .i64 j, .int .i64 k]) {Z : Nat → Prop} {A : Option Addr} {l : List UInt8} (hy : By w Z A l) : By w (fun b => ¬ (b = g)) A l := by
  refine ⟨hy.1, fun hn => ?_⟩
  obtain ⟨b, off, e, _, hlt, hc⟩ := hy.2 hn
  refine ⟨b, off, e, fun eb => ?_, hlt, hc⟩
  subst eb
  rcases l with _ | ⟨y, l⟩
  · simp at hn
  have h1 := hc 0 (bv y) rfl
  rw [hb.cell] at h1
  rcases Nat.lt_or_ge (off + 0) 4 with h0 | h0
  · generalize off + 0 = q at *
    obtain rfl | rfl | rfl | rfl : q = 0 ∨ q = 1 ∨ q = 2 ∨ q = 3 := by omega
    all_goals simp [bv] at h1
  · rw [Array.getElem?_eq_none (by simpa using h0)] at h1; cases h1
/-- the document's files do not lie in a disk's blocks -/
theorem RefAt.disk {w w' : World} {tb mb : Nat} {L : List (Int × FV)} {D V : DP} {v : Value} (h : RefAt w v V) (hd : DiskAt w tb mb L D) (f : Fr (fun g => g = tb ∨ g = mb) w w') : RefAt w' v V := by
  obtain ⟨A, c, L2, e, hF, hc, hp⟩ := h.at_
  refine ⟨A, c, L2, e, ⟨?_, fun x hx => ⟨?_, (hF.ok x hx).2⟩, hF.len⟩, hc, hp⟩
  · refine (Rd.fr (Z := fun b => ¬ (b = tb ∨ b = mb)) (S := fun g => g = tb ∨ g = mb) ⟨hF.rd.1, fun hn => ?_⟩ f (fun _ _ hz => hz)).mono (fun _ _ _ => trivial)
    obtain ⟨b, off, e, _, hlt, hcc⟩ := hF.rd.2 hn
    refine ⟨b, off, e, fun eb => ?_, hlt, hcc⟩
    rcases L2 with _ | ⟨x, L2⟩
    · simp at hn
    have h1 := hcc 1 (.slice x.2.x.A x.2.x.l.length x.2.x.c) rfl
    rcases eb with rfl | rfl
    · rw [hd.blk.cell] at h1
      rcases Nat.lt_or_ge (off + 1) 4 with h0 | h0
      · obtain e | e | e : off + 1 = 1 ∨ off + 1 = 2 ∨ off + 1 = 3 := by omega
        all_goals (rw [e] at h1; simp at h1)
      · rw [Array.getElem?_eq_none (by simpa using h0)] at h1; cases h1
    · obtain ⟨D', ⟨es, clock, h2, _⟩, _⟩ := hd.map.own
      simp [World.cell?, h2] at h1
  · exact ((hd.bytes (hF.ok x hx).1).fr f (fun _ _ hz => hz.2)).mono (fun _ _ _ => trivial)
/-- the disk and the document's, as a call goes on -/
structure DoSt (w : World) (tb mb : Nat) (D V : DP) (v : Value) (W : World) : Prop where
  disk : ∃ L, DiskAt W tb mb L D
  ref : RefAt W v V
  fr : Fr (fun g => g = tb ∨ g = mb) w W
theorem DoSt.below {w W W' : World} {tb mb : Nat} {D V : DP} {v : Value} (h : DoSt w tb mb D V v W) (k : Below W.heap.size W W') : DoSt w tb mb D V v W' := by
  obtain ⟨L, hL⟩ := h.disk
  exact ⟨⟨L, hL.below k⟩, h.ref.below k, h.fr.then_below k⟩
theorem DoSt.to {w W W' : World} {tb mb : Nat} {D V D' : DP} {v : Value} (h : DoSt w tb mb D V v W) (k : DiskTo W tb mb D' W') : DoSt w tb mb D' V v W' := by
  obtain ⟨L, hL⟩ := h.disk
  exact ⟨k.at_, h.ref.disk hL k.fr, h.fr.trans k.fr (fun _ _ e => e)⟩
theorem DoSt.ref' {w W : World} {tb mb : Nat} {D V V' : DP} {v v' : Value} (h : DoSt w tb mb D V v W) (k : RefAt W v' V') : DoSt w tb mb D V' v' W := ⟨h.disk, k, h.fr⟩
theorem DoSt.put {w W W' : World} {tb mb g : Nat} {D V : DP} {v : Value} {B : Option Addr} {m d : Nat} {i j k : Int} (h : DoSt w tb mb D V v W) (hb : Blk W g 38 #[.slice B m d, .int .i64 i, .int .i64 j, .int .i64 k]) (f : Fr (fun x => x = g) W W') (hg : w.heap.size ≤ g) (h1 : tb < w.heap.size) (h2 : mb < w.heap.size) : DoSt w tb mb D V v W' := by
  obtain ⟨L, hL⟩ := h.disk
  refine ⟨⟨L, hL.fr f (fun e => by omega) (fun e => by omega) (fun x hx => hb.noBytesR (hL.ok x hx).1)⟩, ?_, h.fr.trans f (fun x hx e => by omega)⟩
  obtain ⟨A, c, L2, e, hF, hc, hp⟩ := h.ref.at_
  exact ⟨A, c, L2, e, hF.fr_disk hb f, hc, hp⟩
theorem pl_idle {P : Program} {ops : Array Oper} {C : World → Prop} {E : Act → World → Prop} {p : Plan} {o : Oper} {a : Act} {w : World} {k : Nat} (h0 : ops[k]? = some o) (hw : Region.wanted o (yielded ops a.tmps) = false) (h : ∃ a', a.put o.dst undef = a' ∧ PlanW P ops C E p a' w) : PlanW P ops C E (.tell k p) a w := by
  obtain ⟨a', ha, h⟩ := h
  exact ⟨o, undef, h0, .inr ⟨hw, rfl⟩, by rw [ha]; exact h.go⟩
theorem al_idle {P : Program} {ops : Array Oper} {K : Act → World → Prop} {o : Oper} {a : Act} {w : World} (hw : Region.wanted o (yielded ops a.tmps) = false) (h : ∃ a', a.put o.dst undef = a' ∧ K a' w) : AloneW P ops o K a w := by
  obtain ⟨a', ha, h⟩ := h
  exact ⟨.inr ⟨hw, by rw [ha]; exact h⟩⟩
theorem refMake_at (v : Value) (V : DP) (k : Nat) (w : World) (h : RefAt w v V) (hok : DOk V k) (hk : k < 1000000) :
    Calls Try.prog 30 #[v] w fun e w' => ∃ v', e = .returned (.tuple #[v', .int .i64 (makeS V).2.1, .int .i64 (makeS V).2.2]) ∧ RefAt w' v' (makeS V).1 ∧ Below w.heap.size w w' := by
  obtain ⟨A, c, L, rfl, hF, hc, hp⟩ := h.at_
  refine (refMake_any A c L V k w hF hc hp.out hok hk).mono ?_
  rintro e w' ⟨⟨A', c', L', rfl, h1, h2, h3⟩, hb⟩
  exact ⟨_, rfl, ⟨A', c', L', rfl, h1, h2, h3⟩, hb⟩

set_option maxRecDepth 100000 in
set_option maxHeartbeats 4000000 in
theorem do_other (tb mb : Nat) (L : List (Int × FV)) (D V : DP) (k : Nat) (A2 : Option Addr) (c2 : Nat) (L2 : List (Int × FV)) (kind : Int) (h1 : kind ≠ 1) (h2 : kind ≠ 2) (h3 : kind ≠ 3) (h4 : kind ≠ 4) (h5 : kind ≠ 5) (h6 : kind ≠ 6) (h7 : kind ≠ 7) (file n : Int) (xA : Option Addr) (xc : Nat) (xl : List UInt8) (kA : Option Addr) (kc : Nat) (K : List (Int × Int)) (w : World) (hd : DiskAt w tb mb L D) (hok : DOk D k) (_hk : k < 1000000) (hv : RefAt w (refV A2 L2.length c2 V.last V.room V.left) V) (hokV : DOk V k) (ho : OpD.ok w (fun b => ¬ (b = tb ∨ b = mb)) ⟨kind, file, n, ⟨xA, xc, xl⟩, kA, kc, K⟩) (_hx : xl.length ≤ 20000) (_hK : K.length ≤ 20000) :
    Calls Try.prog 12 #[.pointer (some ⟨tb, 0, none⟩), refV A2 L2.length c2 V.last V.room V.left, .agg #[.int .i64 kind, .int .i64 file, .int .i64 n, .slice xA xl.length xc, .slice kA K.length kc]] w fun e w' => ∃ v', e = .returned (.tuple #[v', .bool (true)]) ∧ RefAt w' v' (V) ∧ (∃ L', DiskAt w' tb mb L' (D)) ∧ Fr (fun g => g = tb ∨ g = mb) w w' := by
  have hn1 : (kind == 1) = false := by simpa using h1
  have hn2 : (kind == 2) = false := by simpa using h2
  have hn3 : (kind == 3) = false := by simpa using h3
  have hn4 : (kind == 4) = false := by simpa using h4
  have hn5 : (kind == 5) = false := by simpa using h5
  have hn6 : (kind == 6) = false := by simpa using h6
  have hn7 : (kind == 7) = false := by simpa using h7
  have hw3 : Below w.heap.size w (((w.alloc (.cells #[.slice A2 L2.length c2, .int .i64 V.last, .int .i64 V.room, .int .i64 V.left] 38)).alloc (.cells #[.int .i64 kind, .int .i64 file, .int .i64 n, .slice xA xl.length xc, .slice kA K.length kc] 35)).alloc (.cells #[.slice none 0 0, .int .i64 0, .int .i64 0, .int .i64 0] 38)) := (((Below.refl _ _).alloc (Nat.le_refl _) _).alloc (by simp) _).alloc (by simp; omega) _
  have x0 : Blk (((w.alloc (.cells #[.slice A2 L2.length c2, .int .i64 V.last, .int .i64 V.room, .int .i64 V.left] 38)).alloc (.cells #[.int .i64 kind, .int .i64 file, .int .i64 n, .slice xA xl.length xc, .slice kA K.length kc] 35)).alloc (.cells #[.slice none 0 0, .int .i64 0, .int .i64 0, .int .i64 0] 38)) w.heap.size 38 #[.slice A2 L2.length c2, .int .i64 V.last, .int .i64 V.room, .int .i64 V.left] := (Blk.new w 38 #[.slice A2 L2.length c2, .int .i64 V.last, .int .i64 V.room, .int .i64 V.left]).below ((((Below.refl _ _).alloc (Nat.le_refl _) _)).alloc (by simp) _)
  have x1 : Blk (((w.alloc (.cells #[.slice A2 L2.length c2, .int .i64 V.last, .int .i64 V.room, .int .i64 V.left] 38)).alloc (.cells #[.int .i64 kind, .int .i64 file, .int .i64 n, .slice xA xl.length xc, .slice kA K.length kc] 35)).alloc (.cells #[.slice none 0 0, .int .i64 0, .int .i64 0, .int .i64 0] 38)) (w.heap.size + 1) 35 #[.int .i64 kind, .int .i64 file, .int .i64 n, .slice xA xl.length xc, .slice kA K.length kc] := by
    have := (Blk.new (w.alloc (.cells #[.slice A2 L2.length c2, .int .i64 V.last, .int .i64 V.room, .int .i64 V.left] 38)) 35 #[.int .i64 kind, .int .i64 file, .int .i64 n, .slice xA xl.length xc, .slice kA K.length kc]).below ((Below.refl _ _).alloc (Nat.le_refl _) (.cells #[.slice none 0 0, .int .i64 0, .int .i64 0, .int .i64 0] 38))
    rwa [show (w.alloc (.cells #[.slice A2 L2.length c2, .int .i64 V.last, .int .i64 V.room, .int .i64 V.left] 38)).heap.size = w.heap.size + 1 by simp] at this
  have x2 : Blk (((w.alloc (.cells #[.slice A2 L2.length c2, .int .i64 V.last, .int .i64 V.room, .int .i64 V.left] 38)).alloc (.cells #[.int .i64 kind, .int .i64 file, .int .i64 n, .slice xA xl.length xc, .slice kA K.length kc] 35)).alloc (.cells #[.slice none 0 0, .int .i64 0, .int .i64 0, .int .i64 0] 38)) (w.heap.size + 1 + 1) 38 #[.slice none 0 0, .int .i64 0, .int .i64 0, .int .i64 0] := by
    have := Blk.new ((w.alloc (.cells #[.slice A2 L2.length c2, .int .i64 V.last, .int .i64 V.room, .int .i64 V.left] 38)).alloc (.cells #[.int .i64 kind, .int .i64 file, .int .i64 n, .slice xA xl.length xc, .slice kA K.length kc] 35)) 38 #[.slice none 0 0, .int .i64 0, .int .i64 0, .int .i64 0]
    rwa [show ((w.alloc (.cells #[.slice A2 L2.length c2, .int .i64 V.last, .int .i64 V.room, .int .i64 V.left] 38)).alloc (.cells #[.int .i64 kind, .int .i64 file, .int .i64 n, .slice xA xl.length xc, .slice kA K.length kc] 35)).heap.size = w.heap.size + 1 + 1 by simp] at this
  have tl := hd.blk.lt
  have ml := hd.map.lt
  have ST := Lib.hid (DoSt.below (w := w) (W := w) ⟨⟨L, hd⟩, hv, Fr.refl _ _⟩ hw3)
  have HX := Lib.hid (ho.below hw3)
  have HO := Lib.hid hok
  have HOV := Lib.hid hokV
  clear hd hv ho hok hokV
  go_enter Try.func12, Try.ntmps12
  go_upto_region 1 with (fail)
  generalize (((w.alloc (.cells #[.slice A2 L2.length c2, .int .i64 V.last, .int .i64 V.room, .int .i64 V.left] 38)).alloc (.cells #[.int .i64 kind, .int .i64 file, .int .i64 n, .slice xA xl.length xc, .slice kA K.length kc] 35)).alloc (.cells #[.slice none 0 0, .int .i64 0, .int .i64 0, .int .i64 0] 38)) = w3 at *
  have o0 := x1.cell 0
  have o1 := x1.cell 1
  have o2 := x1.cell 2
  have o3 := x1.cell 3
  have o4 := x1.cell 4
  simp only [List.getElem?_toArray, List.getElem?_cons_zero, List.getElem?_cons_succ] at o0 o1 o2 o3 o4
  clear hw3
  have p0 := x0.cell 0
  have p1 := x0.cell 1
  have p2 := x0.cell 2
  have p3 := x0.cell 3
  simp only [List.getElem?_toArray, List.getElem?_cons_zero, List.getElem?_cons_succ] at p0 p1 p2 p3
  have r0 := x2.cell 0
  have r1 := x2.cell 1
  have r2 := x2.cell 2
  have r3 := x2.cell 3
  simp only [List.getElem?_toArray, List.getElem?_cons_zero, List.getElem?_cons_succ] at r0 r1 r2 r3
  have fr := fun o => x2.frozen o
  go_wp2_with fail
  have kR : Fr (fun x => x = w.heap.size + 1 + 1) w3 ((((w3.setCell ⟨w.heap.size + 1 + 1, 0, none⟩ (.slice A2 L2.length c2)).setCell ⟨w.heap.size + 1 + 1, 1, none⟩ (.int .i64 V.last)).setCell ⟨w.heap.size + 1 + 1, 2, none⟩ (.int .i64 V.room)).setCell ⟨w.heap.size + 1 + 1, 3, none⟩ (.int .i64 V.left)) := (((((Fr.refl (fun x => x = w.heap.size + 1 + 1) w3).setAt (w.heap.size + 1 + 1) _ rfl _).setAt (w.heap.size + 1 + 1) _ rfl _).setAt (w.heap.size + 1 + 1) _ rfl _).setAt (w.heap.size + 1 + 1) _ rfl _)
  have yR := ((((x2.set_ 0 (.slice A2 L2.length c2)).set_ 1 (.int .i64 V.last)).set_ 2 (.int .i64 V.room)).set_ 3 (.int .i64 V.left))
  simp only [List.setIfInBounds_toArray, List.set_cons_zero, List.set_cons_succ] at yR
  have STR := ST.out.put x2 kR (by omega) tl ml
  generalize ((((w3.setCell ⟨w.heap.size + 1 + 1, 0, none⟩ (.slice A2 L2.length c2)).setCell ⟨w.heap.size + 1 + 1, 1, none⟩ (.int .i64 V.last)).setCell ⟨w.heap.size + 1 + 1, 2, none⟩ (.int .i64 V.room)).setCell ⟨w.heap.size + 1 + 1, 3, none⟩ (.int .i64 V.left)) = wR at *
  have s0 := yR.cell 0
  have s1 := yR.cell 1
  have s2 := yR.cell 2
  have s3 := yR.cell 3
  simp only [List.getElem?_toArray, List.getElem?_cons_zero, List.getElem?_cons_succ] at s0 s1 s2 s3
  refine bodyPost_ret (v := .tuple #[.agg #[.slice A2 L2.length c2, .int .i64 V.last, .int .i64 V.room, .int .i64 V.left], .bool true]) (by simp [results, Try.results12, go_sem, s0, s1, s2, s3]) rfl ?_
  exact ⟨_, rfl, STR.ref, STR.disk, STR.fr⟩


set_option maxRecDepth 100000 in
set_option maxHeartbeats 4000000 in
theorem do_append (tb mb : Nat) (L : List (Int × FV)) (D V : DP) (k : Nat) (A2 : Option Addr) (c2 : Nat) (L2 : List (Int × FV)) (file n : Int) (xA : Option Addr) (xc : Nat) (xl : List UInt8) (kA : Option Addr) (kc : Nat) (K : List (Int × Int)) (w : World) (hd : DiskAt w tb mb L D) (hok : DOk D k) (_hk : k < 1000000) (hv : RefAt w (refV A2 L2.length c2 V.last V.room V.left) V) (hokV : DOk V k) (ho : OpD.ok w (fun b => ¬ (b = tb ∨ b = mb)) ⟨2, file, n, ⟨xA, xc, xl⟩, kA, kc, K⟩) (_hx : xl.length ≤ 20000) (_hK : K.length ≤ 20000) :
    Calls Try.prog 12 #[.pointer (some ⟨tb, 0, none⟩), refV A2 L2.length c2 V.last V.room V.left, .agg #[.int .i64 2, .int .i64 file, .int .i64 n, .slice xA xl.length xc, .slice kA K.length kc]] w fun e w' => ∃ v', e = .returned (.tuple #[v', .bool ((appendS D file xl).2 == (appendS V file xl).2)]) ∧ RefAt w' v' ((appendS V file xl).1) ∧ (∃ L', DiskAt w' tb mb L' ((appendS D file xl).1)) ∧ Fr (fun g => g = tb ∨ g = mb) w w' := by
  obtain ⟨V', hV'⟩ : ∃ V', V' = (appendS V file xl).1 := ⟨_, rfl⟩
  obtain ⟨e2, he2⟩ : ∃ e2, e2 = (appendS V file xl).2 := ⟨_, rfl⟩
  obtain ⟨D', hD'⟩ : ∃ D', D' = (appendS D file xl).1 := ⟨_, rfl⟩
  obtain ⟨e1, he1⟩ : ∃ e1, e1 = (appendS D file xl).2 := ⟨_, rfl⟩
  rw [← hV', ← he2, ← hD', ← he1]
  have HV' := Lib.hid hV'
  have HE2 := Lib.hid he2
  have HD' := Lib.hid hD'
  have HE1 := Lib.hid he1
  clear hV' he2 hD' he1
  have hw3 : Below w.heap.size w (((w.alloc (.cells #[.slice A2 L2.length c2, .int .i64 V.last, .int .i64 V.room, .int .i64 V.left] 38)).alloc (.cells #[.int .i64 2, .int .i64 file, .int .i64 n, .slice xA xl.length xc, .slice kA K.length kc] 35)).alloc (.cells #[.slice none 0 0, .int .i64 0, .int .i64 0, .int .i64 0] 38)) := (((Below.refl _ _).alloc (Nat.le_refl _) _).alloc (by simp) _).alloc (by simp; omega) _
  have x0 : Blk (((w.alloc (.cells #[.slice A2 L2.length c2, .int .i64 V.last, .int .i64 V.room, .int .i64 V.left] 38)).alloc (.cells #[.int .i64 2, .int .i64 file, .int .i64 n, .slice xA xl.length xc, .slice kA K.length kc] 35)).alloc (.cells #[.slice none 0 0, .int .i64 0, .int .i64 0, .int .i64 0] 38)) w.heap.size 38 #[.slice A2 L2.length c2, .int .i64 V.last, .int .i64 V.room, .int .i64 V.left] := (Blk.new w 38 #[.slice A2 L2.length c2, .int .i64 V.last, .int .i64 V.room, .int .i64 V.left]).below ((((Below.refl _ _).alloc (Nat.le_refl _) _)).alloc (by simp) _)
  have x1 : Blk (((w.alloc (.cells #[.slice A2 L2.length c2, .int .i64 V.last, .int .i64 V.room, .int .i64 V.left] 38)).alloc (.cells #[.int .i64 2, .int .i64 file, .int .i64 n, .slice xA xl.length xc, .slice kA K.length kc] 35)).alloc (.cells #[.slice none 0 0, .int .i64 0, .int .i64 0, .int .i64 0] 38)) (w.heap.size + 1) 35 #[.int .i64 2, .int .i64 file, .int .i64 n, .slice xA xl.length xc, .slice kA K.length kc] := by
    have := (Blk.new (w.alloc (.cells #[.slice A2 L2.length c2, .int .i64 V.last, .int .i64 V.room, .int .i64 V.left] 38)) 35 #[.int .i64 2, .int .i64 file, .int .i64 n, .slice xA xl.length xc, .slice kA K.length kc]).below ((Below.refl _ _).alloc (Nat.le_refl _) (.cells #[.slice none 0 0, .int .i64 0, .int .i64 0, .int .i64 0] 38))
    rwa [show (w.alloc (.cells #[.slice A2 L2.length c2, .int .i64 V.last, .int .i64 V.room, .int .i64 V.left] 38)).heap.size = w.heap.size + 1 by simp] at this
  have x2 : Blk (((w.alloc (.cells #[.slice A2 L2.length c2, .int .i64 V.last, .int .i64 V.room, .int .i64 V.left] 38)).alloc (.cells #[.int .i64 2, .int .i64 file, .int .i64 n, .slice xA xl.length xc, .slice kA K.length kc] 35)).alloc (.cells #[.slice none 0 0, .int .i64 0, .int .i64 0, .int .i64 0] 38)) (w.heap.size + 1 + 1) 38 #[.slice none 0 0, .int .i64 0, .int .i64 0, .int .i64 0] := by
    have := Blk.new ((w.alloc (.cells #[.slice A2 L2.length c2, .int .i64 V.last, .int .i64 V.room, .int .i64 V.left] 38)).alloc (.cells #[.int .i64 2, .int .i64 file, .int .i64 n, .slice xA xl.length xc, .slice kA K.length kc] 35)) 38 #[.slice none 0 0, .int .i64 0, .int .i64 0, .int .i64 0]
    rwa [show ((w.alloc (.cells #[.slice A2 L2.length c2, .int .i64 V.last, .int .i64 V.room, .int .i64 V.left] 38)).alloc (.cells #[.int .i64 2, .int .i64 file, .int .i64 n, .slice xA xl.length xc, .slice kA K.length kc] 35)).heap.size = w.heap.size + 1 + 1 by simp] at this
  have tl := hd.blk.lt
  have ml := hd.map.lt
  have ST := Lib.hid (DoSt.below (w := w) (W := w) ⟨⟨L, hd⟩, hv, Fr.refl _ _⟩ hw3)
  have HX := Lib.hid (ho.below hw3)
  have HO := Lib.hid hok
  have HOV := Lib.hid hokV
  clear hd hv ho hok hokV
  go_enter Try.func12, Try.ntmps12
  go_upto_region 1 with (fail)
  generalize (((w.alloc (.cells #[.slice A2 L2.length c2, .int .i64 V.last, .int .i64 V.room, .int .i64 V.left] 38)).alloc (.cells #[.int .i64 2, .int .i64 file, .int .i64 n, .slice xA xl.length xc, .slice kA K.length kc] 35)).alloc (.cells #[.slice none 0 0, .int .i64 0, .int .i64 0, .int .i64 0] 38)) = w3 at *
  have o0 := x1.cell 0
  have o1 := x1.cell 1
  have o2 := x1.cell 2
  have o3 := x1.cell 3
  have o4 := x1.cell 4
  simp only [List.getElem?_toArray, List.getElem?_cons_zero, List.getElem?_cons_succ] at o0 o1 o2 o3 o4
  clear hw3
  have p0 := x0.cell 0
  have p1 := x0.cell 1
  have p2 := x0.cell 2
  have p3 := x0.cell 3
  simp only [List.getElem?_toArray, List.getElem?_cons_zero, List.getElem?_cons_succ] at p0 p1 p2 p3
  have HC := refAppend_any _ V k file ⟨xA, xc, xl⟩ w3 ST.out.ref HOV.out ⟨HX.out.x.1.mono (fun _ _ _ => trivial), HX.out.x.2⟩ (by dsimp only; omega)
  try dsimp only at HC
  rw [← HV'.out, ← HE2.out] at HC
  replace HC := Lib.hid HC
  go_wp2_with fail
  refine HC.out.mono ?_
  rintro e w4 ⟨v4, rfl, hr4, hb4⟩
  obtain ⟨A5, c5, L5, rfl, hF5, hc5, hp5⟩ := hr4.at_
  have ST4 := (ST.out.below hb4).ref' hr4
  have hba : Below w4.heap.size w4 (w4.alloc (.cells #[.slice A5 L5.length c5, .int .i64 V'.last, .int .i64 V'.room, .int .i64 V'.left] 38)) := (Below.refl _ _).alloc (Nat.le_refl _) _
  have y5 := Blk.new w4 38 #[.slice A5 L5.length c5, .int .i64 V'.last, .int .i64 V'.room, .int .i64 V'.left]
  have l45 : w.heap.size + 1 + 1 < w4.heap.size := Nat.lt_of_lt_of_le x2.lt hb4.size
  have ST5 := Lib.hid (ST4.below hba)
  have HX5 := Lib.hid ((HX.out.below hb4).below hba)
  have y1 := (x1.below hb4).below hba
  have y2 := (x2.below hb4).below hba
  clear HC ST HX x0 x1 x2 p0 p1 p2 p3 o0 o1 o2 o3 o4 hF5 hc5 hp5 hr4 ST4
  go_upto_region 8 with (fail)
  generalize w4.alloc (.cells #[.slice A5 L5.length c5, .int .i64 V'.last, .int .i64 V'.room, .int .i64 V'.left] 38) = w5 at *
  clear hba hb4
  obtain ⟨L6, hd6⟩ := ST5.out.disk
  have HD6 := Lib.hid hd6
  have HC := fun (W : World) (hW : Below w5.heap.size w5 W) => append_any tb mb L6 D k file ⟨xA, xc, xl⟩ W (HD6.out.below hW) HO.out (by omega) (i64_wf HX5.out.f) (BV.ok.below ⟨HX5.out.x.1.mono (fun _ _ _ => trivial), HX5.out.x.2⟩ hW) (by dsimp only; omega)
  try dsimp only at HC
  rw [← HD'.out, ← HE1.out] at HC
  replace HC := Lib.hid HC
  clear hd6
  go_wp2_with fail
  refine wp_region_line (.tell 0 (.tell 1 (.tell 2 (.tell 3 (.tell 4 (.tell 5 (.tell 7 (.one 6 (.tell 8 (.one 9 .done)))))))))) (fun W => Fr (fun x => (x = tb ∨ x = mb) ∨ x = w.heap.size + 1 + 1) w5 W) (by kernel_rfl) (by kernel_rfl) ?_
  refine pl_val (by (simp only [List.getElem?_toArray, List.getElem?_cons_zero]; rfl)) (by kernel_rfl) ⟨_, (by (intro w' hC; have q0 := (y5.fr hC (by omega)).cell 0; have q1 := (y5.fr hC (by omega)).cell 1; have q2 := (y5.fr hC (by omega)).cell 2; have q3 := (y5.fr hC (by omega)).cell 3; simp only [List.getElem?_toArray, List.getElem?_cons_zero, List.getElem?_cons_succ] at q0 q1 q2 q3; clear hC; (try go_simp); (try with_reducible rfl); done)), _, (by (simp only [Act.put, List.setIfInBounds_toArray, List.set_cons_zero, List.set_cons_succ]; rfl)), ?_⟩
  refine pl_val (by (simp only [List.getElem?_toArray, List.getElem?_cons_succ, List.getElem?_cons_zero]; rfl)) (by kernel_rfl) ⟨_, (by (intro w' hC; clear hC; (try go_simp); (try with_reducible rfl); done)), _, (by (simp only [Act.put, List.setIfInBounds_toArray, List.set_cons_zero, List.set_cons_succ]; rfl)), ?_⟩
  refine pl_val (by (simp only [List.getElem?_toArray, List.getElem?_cons_succ, List.getElem?_cons_zero]; rfl)) (by kernel_rfl) ⟨_, (by (intro w' hC; clear hC; (try go_simp); (try with_reducible rfl); done)), _, (by (simp only [Act.put, List.setIfInBounds_toArray, List.set_cons_zero, List.set_cons_succ]; rfl)), ?_⟩
  refine pl_val (by (simp only [List.getElem?_toArray, List.getElem?_cons_succ, List.getElem?_cons_zero]; rfl)) (by kernel_rfl) ⟨_, (by (intro w' hC; have q := (y1.fr hC (by omega)).cell 1; simp only [List.getElem?_toArray, List.getElem?_cons_zero, List.getElem?_cons_succ] at q; clear hC; (try go_simp); (try with_reducible rfl); done)), _, (by (simp only [Act.put, List.setIfInBounds_toArray, List.set_cons_zero, List.set_cons_succ]; rfl)), ?_⟩
  refine pl_val (by (simp only [List.getElem?_toArray, List.getElem?_cons_succ, List.getElem?_cons_zero]; rfl)) (by kernel_rfl) ⟨_, (by (intro w' hC; clear hC; (try go_simp); (try with_reducible rfl); done)), _, (by (simp only [Act.put, List.setIfInBounds_toArray, List.set_cons_zero, List.set_cons_succ]; rfl)), ?_⟩
  refine pl_val (by (simp only [List.getElem?_toArray, List.getElem?_cons_succ, List.getElem?_cons_zero]; rfl)) (by kernel_rfl) ⟨_, (by (intro w' hC; have q := (y1.fr hC (by omega)).cell 3; simp only [List.getElem?_toArray, List.getElem?_cons_zero, List.getElem?_cons_succ] at q; clear hC; (try go_simp); (try with_reducible rfl); done)), _, (by (simp only [Act.put, List.setIfInBounds_toArray, List.set_cons_zero, List.set_cons_succ]; rfl)), ?_⟩
  refine pl_val (by (simp only [List.getElem?_toArray, List.getElem?_cons_succ, List.getElem?_cons_zero]; rfl)) (by kernel_rfl) ⟨_, (by (intro w' hC; clear hC; (try go_simp); (try with_reducible rfl); done)), _, (by (simp only [Act.put, List.setIfInBounds_toArray, List.set_cons_zero, List.set_cons_succ]; rfl)), ?_⟩
  have hC0 : Fr (fun x => (x = tb ∨ x = mb) ∨ x = w.heap.size + 1 + 1) w5 w5.drew := (Fr.refl _ w5).drew
  refine pl_one (by (simp only [List.getElem?_toArray, List.getElem?_cons_succ, List.getElem?_cons_zero]; rfl)) hC0 ?_
  refine al_call (by kernel_rfl) (by go_simp; done) (HC.out w5.drew (Below.refl _ _).drew) ?_
  rintro e w6 ⟨rfl, h6⟩
  replace h6 : DiskTo w5 tb mb D' w6 := ⟨h6.at_, (Fr.of_below (Below.refl _ _).drew _).trans h6.fr (fun _ _ e => e)⟩
  refine ⟨_, rfl, _, (by (simp only [Act.put, List.setIfInBounds_toArray, List.set_cons_zero, List.set_cons_succ]; rfl)), ?_⟩
  refine pl_val (by (simp only [List.getElem?_toArray, List.getElem?_cons_succ, List.getElem?_cons_zero]; rfl)) (by kernel_rfl) ⟨_, (by (intro w' hC; clear hC; (try go_simp); (try with_reducible rfl); done)), _, (by (simp only [Act.put, List.setIfInBounds_toArray, List.set_cons_zero, List.set_cons_succ]; rfl)), ?_⟩
  have h6S : Fr (fun x => (x = tb ∨ x = mb) ∨ x = w.heap.size + 1 + 1) w5 w6 := h6.fr.mono (fun _ _ e => .inl e)
  have ST := Lib.hid (ST5.out.to h6)
  have z2 := y2.fr h6.fr (by omega)
  have fr := fun o => z2.frozen o
  have r0 := z2.cell 0
  have r1 := z2.cell 1
  have r2 := z2.cell 2
  have r3 := z2.cell 3
  simp only [List.getElem?_toArray, List.getElem?_cons_zero, List.getElem?_cons_succ] at r0 r1 r2 r3
  refine pl_one (by (simp only [List.getElem?_toArray, List.getElem?_cons_succ, List.getElem?_cons_zero]; rfl)) h6S ?_
  refine al_skip (by kernel_rfl) ⟨_, (by (go_simp; first | done | rfl)), _, (by (simp only [Act.put]; rfl)), ?_⟩
  refine pl_end ((((h6S.setAt (w.heap.size + 1 + 1) 0 (.inr rfl) _).setAt (w.heap.size + 1 + 1) 1 (.inr rfl) _).setAt (w.heap.size + 1 + 1) 2 (.inr rfl) _).setAt (w.heap.size + 1 + 1) 3 (.inr rfl) _) ?_
  simp only [Plan.count, Nat.reduceAdd, List.drop_succ_cons, List.drop_zero]
  clear HC HD6 y1 y2 y5 HX5 ST5 hC0 h6S
  go_wp2_with fail
  have kR : Fr (fun x => x = w.heap.size + 1 + 1) w6 ((((w6.setCell ⟨w.heap.size + 1 + 1, 0, none⟩ (.slice A5 L5.length c5)).setCell ⟨w.heap.size + 1 + 1, 1, none⟩ (.int .i64 V'.last)).setCell ⟨w.heap.size + 1 + 1, 2, none⟩ (.int .i64 V'.room)).setCell ⟨w.heap.size + 1 + 1, 3, none⟩ (.int .i64 V'.left)) := (((((Fr.refl (fun x => x = w.heap.size + 1 + 1) w6).setAt (w.heap.size + 1 + 1) _ rfl _).setAt (w.heap.size + 1 + 1) _ rfl _).setAt (w.heap.size + 1 + 1) _ rfl _).setAt (w.heap.size + 1 + 1) _ rfl _)
  have yR := ((((z2.set_ 0 (.slice A5 L5.length c5)).set_ 1 (.int .i64 V'.last)).set_ 2 (.int .i64 V'.room)).set_ 3 (.int .i64 V'.left))
  simp only [List.setIfInBounds_toArray, List.set_cons_zero, List.set_cons_succ] at yR
  have STR := ST.out.put z2 kR (by omega) tl ml
  generalize ((((w6.setCell ⟨w.heap.size + 1 + 1, 0, none⟩ (.slice A5 L5.length c5)).setCell ⟨w.heap.size + 1 + 1, 1, none⟩ (.int .i64 V'.last)).setCell ⟨w.heap.size + 1 + 1, 2, none⟩ (.int .i64 V'.room)).setCell ⟨w.heap.size + 1 + 1, 3, none⟩ (.int .i64 V'.left)) = wR at *
  have s0 := yR.cell 0
  have s1 := yR.cell 1
  have s2 := yR.cell 2
  have s3 := yR.cell 3
  simp only [List.getElem?_toArray, List.getElem?_cons_zero, List.getElem?_cons_succ] at s0 s1 s2 s3
  refine bodyPost_ret (v := .tuple #[.agg #[.slice A5 L5.length c5, .int .i64 V'.last, .int .i64 V'.room, .int .i64 V'.left], .bool (e1 == e2)]) (by simp [results, Try.results12, go_sem, s0, s1, s2, s3]) rfl ?_
  exact ⟨_, rfl, STR.ref, STR.disk, STR.fr⟩


set_option maxRecDepth 100000 in
set_option maxHeartbeats 4000000 in
theorem do_sync (tb mb : Nat) (L : List (Int × FV)) (D V : DP) (k : Nat) (A2 : Option Addr) (c2 : Nat) (L2 : List (Int × FV)) (file n : Int) (xA : Option Addr) (xc : Nat) (xl : List UInt8) (kA : Option Addr) (kc : Nat) (K : List (Int × Int)) (w : World) (hd : DiskAt w tb mb L D) (hok : DOk D k) (_hk : k < 1000000) (hv : RefAt w (refV A2 L2.length c2 V.last V.room V.left) V) (hokV : DOk V k) (ho : OpD.ok w (fun b => ¬ (b = tb ∨ b = mb)) ⟨3, file, n, ⟨xA, xc, xl⟩, kA, kc, K⟩) (_hx : xl.length ≤ 20000) (_hK : K.length ≤ 20000) :
    Calls Try.prog 12 #[.pointer (some ⟨tb, 0, none⟩), refV A2 L2.length c2 V.last V.room V.left, .agg #[.int .i64 3, .int .i64 file, .int .i64 n, .slice xA xl.length xc, .slice kA K.length kc]] w fun e w' => ∃ v', e = .returned (.tuple #[v', .bool ((syncS D file).2 == (syncS V file).2)]) ∧ RefAt w' v' ((syncS V file).1) ∧ (∃ L', DiskAt w' tb mb L' ((syncS D file).1)) ∧ Fr (fun g => g = tb ∨ g = mb) w w' := by
  obtain ⟨V', hV'⟩ : ∃ V', V' = (syncS V file).1 := ⟨_, rfl⟩
  obtain ⟨e2, he2⟩ : ∃ e2, e2 = (syncS V file).2 := ⟨_, rfl⟩
  obtain ⟨D', hD'⟩ : ∃ D', D' = (syncS D file).1 := ⟨_, rfl⟩
  obtain ⟨e1, he1⟩ : ∃ e1, e1 = (syncS D file).2 := ⟨_, rfl⟩
  rw [← hV', ← he2, ← hD', ← he1]
  have HV' := Lib.hid hV'
  have HE2 := Lib.hid he2
  have HD' := Lib.hid hD'
  have HE1 := Lib.hid he1
  clear hV' he2 hD' he1
  have hw3 : Below w.heap.size w (((w.alloc (.cells #[.slice A2 L2.length c2, .int .i64 V.last, .int .i64 V.room, .int .i64 V.left] 38)).alloc (.cells #[.int .i64 3, .int .i64 file, .int .i64 n, .slice xA xl.length xc, .slice kA K.length kc] 35)).alloc (.cells #[.slice none 0 0, .int .i64 0, .int .i64 0, .int .i64 0] 38)) := (((Below.refl _ _).alloc (Nat.le_refl _) _).alloc (by simp) _).alloc (by simp; omega) _
  have x0 : Blk (((w.alloc (.cells #[.slice A2 L2.length c2, .int .i64 V.last, .int .i64 V.room, .int .i64 V.left] 38)).alloc (.cells #[.int .i64 3, .int .i64 file, .int .i64 n, .slice xA xl.length xc, .slice kA K.length kc] 35)).alloc (.cells #[.slice none 0 0, .int .i64 0, .int .i64 0, .int .i64 0] 38)) w.heap.size 38 #[.slice A2 L2.length c2, .int .i64 V.last, .int .i64 V.room, .int .i64 V.left] := (Blk.new w 38 #[.slice A2 L2.length c2, .int .i64 V.last, .int .i64 V.room, .int .i64 V.left]).below ((((Below.refl _ _).alloc (Nat.le_refl _) _)).alloc (by simp) _)
  have x1 : Blk (((w.alloc (.cells #[.slice A2 L2.length c2, .int .i64 V.last, .int .i64 V.room, .int .i64 V.left] 38)).alloc (.cells #[.int .i64 3, .int .i64 file, .int .i64 n, .slice xA xl.length xc, .slice kA K.length kc] 35)).alloc (.cells #[.slice none 0 0, .int .i64 0, .int .i64 0, .int .i64 0] 38)) (w.heap.size + 1) 35 #[.int .i64 3, .int .i64 file, .int .i64 n, .slice xA xl.length xc, .slice kA K.length kc] := by
    have := (Blk.new (w.alloc (.cells #[.slice A2 L2.length c2, .int .i64 V.last, .int .i64 V.room, .int .i64 V.left] 38)) 35 #[.int .i64 3, .int .i64 file, .int .i64 n, .slice xA xl.length xc, .slice kA K.length kc]).below ((Below.refl _ _).alloc (Nat.le_refl _) (.cells #[.slice none 0 0, .int .i64 0, .int .i64 0, .int .i64 0] 38))
    rwa [show (w.alloc (.cells #[.slice A2 L2.length c2, .int .i64 V.last, .int .i64 V.room, .int .i64 V.left] 38)).heap.size = w.heap.size + 1 by simp] at this
  have x2 : Blk (((w.alloc (.cells #[.slice A2 L2.length c2, .int .i64 V.last, .int .i64 V.room, .int .i64 V.left] 38)).alloc (.cells #[.int .i64 3, .int .i64 file, .int .i64 n, .slice xA xl.length xc, .slice kA K.length kc] 35)).alloc (.cells #[.slice none 0 0, .int .i64 0, .int .i64 0, .int .i64 0] 38)) (w.heap.size + 1 + 1) 38 #[.slice none 0 0, .int .i64 0, .int .i64 0, .int .i64 0] := by
    have := Blk.new ((w.alloc (.cells #[.slice A2 L2.length c2, .int .i64 V.last, .int .i64 V.room, .int .i64 V.left] 38)).alloc (.cells #[.int .i64 3, .int .i64 file, .int .i64 n, .slice xA xl.length xc, .slice kA K.length kc] 35)) 38 #[.slice none 0 0, .int .i64 0, .int .i64 0, .int .i64 0]
    rwa [show ((w.alloc (.cells #[.slice A2 L2.length c2, .int .i64 V.last, .int .i64 V.room, .int .i64 V.left] 38)).alloc (.cells #[.int .i64 3, .int .i64 file, .int .i64 n, .slice xA xl.length xc, .slice kA K.length kc] 35)).heap.size = w.heap.size + 1 + 1 by simp] at this
  have tl := hd.blk.lt
  have ml := hd.map.lt
  have ST := Lib.hid (DoSt.below (w := w) (W := w) ⟨⟨L, hd⟩, hv, Fr.refl _ _⟩ hw3)
  have HX := Lib.hid (ho.below hw3)
  have HO := Lib.hid hok
  have HOV := Lib.hid hokV
  clear hd hv ho hok hokV
  go_enter Try.func12, Try.ntmps12
  go_upto_region 1 with (fail)
  generalize (((w.alloc (.cells #[.slice A2 L2.length c2, .int .i64 V.last, .int .i64 V.room, .int .i64 V.left] 38)).alloc (.cells #[.int .i64 3, .int .i64 file, .int .i64 n, .slice xA xl.length xc, .slice kA K.length kc] 35)).alloc (.cells #[.slice none 0 0, .int .i64 0, .int .i64 0, .int .i64 0] 38)) = w3 at *
  have o0 := x1.cell 0
  have o1 := x1.cell 1
  have o2 := x1.cell 2
  have o3 := x1.cell 3
  have o4 := x1.cell 4
  simp only [List.getElem?_toArray, List.getElem?_cons_zero, List.getElem?_cons_succ] at o0 o1 o2 o3 o4
  clear hw3
  have p0 := x0.cell 0
  have p1 := x0.cell 1
  have p2 := x0.cell 2
  have p3 := x0.cell 3
  simp only [List.getElem?_toArray, List.getElem?_cons_zero, List.getElem?_cons_succ] at p0 p1 p2 p3
  have HC := refSync_any _ V k file w3 ST.out.ref HOV.out
  try dsimp only at HC
  rw [← HV'.out, ← HE2.out] at HC
  replace HC := Lib.hid HC
  go_wp2_with fail
  refine HC.out.mono ?_
  rintro e w4 ⟨v4, rfl, hr4, hb4⟩
  obtain ⟨A5, c5, L5, rfl, hF5, hc5, hp5⟩ := hr4.at_
  have ST4 := (ST.out.below hb4).ref' hr4
  have hba : Below w4.heap.size w4 (w4.alloc (.cells #[.slice A5 L5.length c5, .int .i64 V'.last, .int .i64 V'.room, .int .i64 V'.left] 38)) := (Below.refl _ _).alloc (Nat.le_refl _) _
  have y5 := Blk.new w4 38 #[.slice A5 L5.length c5, .int .i64 V'.last, .int .i64 V'.room, .int .i64 V'.left]
  have l45 : w.heap.size + 1 + 1 < w4.heap.size := Nat.lt_of_lt_of_le x2.lt hb4.size
  have ST5 := Lib.hid (ST4.below hba)
  have HX5 := Lib.hid ((HX.out.below hb4).below hba)
  have y1 := (x1.below hb4).below hba
  have y2 := (x2.below hb4).below hba
  clear HC ST HX x0 x1 x2 p0 p1 p2 p3 o0 o1 o2 o3 o4 hF5 hc5 hp5 hr4 ST4
  go_upto_region 11 with (fail)
  generalize w4.alloc (.cells #[.slice A5 L5.length c5, .int .i64 V'.last, .int .i64 V'.room, .int .i64 V'.left] 38) = w5 at *
  clear hba hb4
  obtain ⟨L6, hd6⟩ := ST5.out.disk
  have HD6 := Lib.hid hd6
  have HC := fun (W : World) (hW : Below w5.heap.size w5 W) => sync_any tb mb L6 D k file W (HD6.out.below hW) HO.out (by omega) (i64_wf HX5.out.f)
  try dsimp only at HC
  rw [← HD'.out, ← HE1.out] at HC
  replace HC := Lib.hid HC
  clear hd6
  go_wp2_with fail
  refine wp_region_line (.tell 0 (.tell 1 (.tell 2 (.tell 3 (.tell 5 (.one 4 (.tell 6 (.one 7 .done)))))))) (fun W => Fr (fun x => (x = tb ∨ x = mb) ∨ x = w.heap.size + 1 + 1) w5 W) (by kernel_rfl) (by kernel_rfl) ?_
  refine pl_val (by (simp only [List.getElem?_toArray, List.getElem?_cons_zero]; rfl)) (by kernel_rfl) ⟨_, (by (intro w' hC; have q0 := (y5.fr hC (by omega)).cell 0; have q1 := (y5.fr hC (by omega)).cell 1; have q2 := (y5.fr hC (by omega)).cell 2; have q3 := (y5.fr hC (by omega)).cell 3; simp only [List.getElem?_toArray, List.getElem?_cons_zero, List.getElem?_cons_succ] at q0 q1 q2 q3; clear hC; (try go_simp); (try with_reducible rfl); done)), _, (by (simp only [Act.put, List.setIfInBounds_toArray, List.set_cons_zero, List.set_cons_succ]; rfl)), ?_⟩
  refine pl_val (by (simp only [List.getElem?_toArray, List.getElem?_cons_succ, List.getElem?_cons_zero]; rfl)) (by kernel_rfl) ⟨_, (by (intro w' hC; clear hC; (try go_simp); (try with_reducible rfl); done)), _, (by (simp only [Act.put, List.setIfInBounds_toArray, List.set_cons_zero, List.set_cons_succ]; rfl)), ?_⟩
  refine pl_val (by (simp only [List.getElem?_toArray, List.getElem?_cons_succ, List.getElem?_cons_zero]; rfl)) (by kernel_rfl) ⟨_, (by (intro w' hC; clear hC; (try go_simp); (try with_reducible rfl); done)), _, (by (simp only [Act.put, List.setIfInBounds_toArray, List.set_cons_zero, List.set_cons_succ]; rfl)), ?_⟩
  refine pl_val (by (simp only [List.getElem?_toArray, List.getElem?_cons_succ, List.getElem?_cons_zero]; rfl)) (by kernel_rfl) ⟨_, (by (intro w' hC; have q := (y1.fr hC (by omega)).cell 1; simp only [List.getElem?_toArray, List.getElem?_cons_zero, List.getElem?_cons_succ] at q; clear hC; (try go_simp); (try with_reducible rfl); done)), _, (by (simp only [Act.put, List.setIfInBounds_toArray, List.set_cons_zero, List.set_cons_succ]; rfl)), ?_⟩
  refine pl_val (by (simp only [List.getElem?_toArray, List.getElem?_cons_succ, List.getElem?_cons_zero]; rfl)) (by kernel_rfl) ⟨_, (by (intro w' hC; clear hC; (try go_simp); (try with_reducible rfl); done)), _, (by (simp only [Act.put, List.setIfInBounds_toArray, List.set_cons_zero, List.set_cons_succ]; rfl)), ?_⟩
  have hC0 : Fr (fun x => (x = tb ∨ x = mb) ∨ x = w.heap.size + 1 + 1) w5 w5.drew := (Fr.refl _ w5).drew
  refine pl_one (by (simp only [List.getElem?_toArray, List.getElem?_cons_succ, List.getElem?_cons_zero]; rfl)) hC0 ?_
  refine al_call (by kernel_rfl) (by go_simp; done) (HC.out w5.drew (Below.refl _ _).drew) ?_
  rintro e w6 ⟨rfl, h6⟩
  replace h6 : DiskTo w5 tb mb D' w6 := ⟨h6.at_, (Fr.of_below (Below.refl _ _).drew _).trans h6.fr (fun _ _ e => e)⟩
  refine ⟨_, rfl, _, (by (simp only [Act.put, List.setIfInBounds_toArray, List.set_cons_zero, List.set_cons_succ]; rfl)), ?_⟩
  refine pl_val (by (simp only [List.getElem?_toArray, List.getElem?_cons_succ, List.getElem?_cons_zero]; rfl)) (by kernel_rfl) ⟨_, (by (intro w' hC; clear hC; (try go_simp); (try with_reducible rfl); done)), _, (by (simp only [Act.put, List.setIfInBounds_toArray, List.set_cons_zero, List.set_cons_succ]; rfl)), ?_⟩
  have h6S : Fr (fun x => (x = tb ∨ x = mb) ∨ x = w.heap.size + 1 + 1) w5 w6 := h6.fr.mono (fun _ _ e => .inl e)
  have ST := Lib.hid (ST5.out.to h6)
  have z2 := y2.fr h6.fr (by omega)
  have fr := fun o => z2.frozen o
  have r0 := z2.cell 0
  have r1 := z2.cell 1
  have r2 := z2.cell 2
  have r3 := z2.cell 3
  simp only [List.getElem?_toArray, List.getElem?_cons_zero, List.getElem?_cons_succ] at r0 r1 r2 r3
  refine pl_one (by (simp only [List.getElem?_toArray, List.getElem?_cons_succ, List.getElem?_cons_zero]; rfl)) h6S ?_
  refine al_skip (by kernel_rfl) ⟨_, (by (go_simp; first | done | rfl)), _, (by (simp only [Act.put]; rfl)), ?_⟩
  refine pl_end ((((h6S.setAt (w.heap.size + 1 + 1) 0 (.inr rfl) _).setAt (w.heap.size + 1 + 1) 1 (.inr rfl) _).setAt (w.heap.size + 1 + 1) 2 (.inr rfl) _).setAt (w.heap.size + 1 + 1) 3 (.inr rfl) _) ?_
  simp only [Plan.count, Nat.reduceAdd, List.drop_succ_cons, List.drop_zero]
  clear HC HD6 y1 y2 y5 HX5 ST5 hC0 h6S
  go_wp2_with fail
  have kR : Fr (fun x => x = w.heap.size + 1 + 1) w6 ((((w6.setCell ⟨w.heap.size + 1 + 1, 0, none⟩ (.slice A5 L5.length c5)).setCell ⟨w.heap.size + 1 + 1, 1, none⟩ (.int .i64 V'.last)).setCell ⟨w.heap.size + 1 + 1, 2, none⟩ (.int .i64 V'.room)).setCell ⟨w.heap.size + 1 + 1, 3, none⟩ (.int .i64 V'.left)) := (((((Fr.refl (fun x => x = w.heap.size + 1 + 1) w6).setAt (w.heap.size + 1 + 1) _ rfl _).setAt (w.heap.size + 1 + 1) _ rfl _).setAt (w.heap.size + 1 + 1) _ rfl _).setAt (w.heap.size + 1 + 1) _ rfl _)
  have yR := ((((z2.set_ 0 (.slice A5 L5.length c5)).set_ 1 (.int .i64 V'.last)).set_ 2 (.int .i64 V'.room)).set_ 3 (.int .i64 V'.left))
  simp only [List.setIfInBounds_toArray, List.set_cons_zero, List.set_cons_succ] at yR
  have STR := ST.out.put z2 kR (by omega) tl ml
  generalize ((((w6.setCell ⟨w.heap.size + 1 + 1, 0, none⟩ (.slice A5 L5.length c5)).setCell ⟨w.heap.size + 1 + 1, 1, none⟩ (.int .i64 V'.last)).setCell ⟨w.heap.size + 1 + 1, 2, none⟩ (.int .i64 V'.room)).setCell ⟨w.heap.size + 1 + 1, 3, none⟩ (.int .i64 V'.left)) = wR at *
  have s0 := yR.cell 0
  have s1 := yR.cell 1
  have s2 := yR.cell 2
  have s3 := yR.cell 3
  simp only [List.getElem?_toArray, List.getElem?_cons_zero, List.getElem?_cons_succ] at s0 s1 s2 s3
  refine bodyPost_ret (v := .tuple #[.agg #[.slice A5 L5.length c5, .int .i64 V'.last, .int .i64 V'.room, .int .i64 V'.left], .bool (e1 == e2)]) (by simp [results, Try.results12, go_sem, s0, s1, s2, s3]) rfl ?_
  exact ⟨_, rfl, STR.ref, STR.disk, STR.fr⟩


set_option maxRecDepth 100000 in
set_option maxHeartbeats 4000000 in
theorem do_drop (tb mb : Nat) (L : List (Int × FV)) (D V : DP) (k : Nat) (A2 : Option Addr) (c2 : Nat) (L2 : List (Int × FV)) (file n : Int) (xA : Option Addr) (xc : Nat) (xl : List UInt8) (kA : Option Addr) (kc : Nat) (K : List (Int × Int)) (w : World) (hd : DiskAt w tb mb L D) (hok : DOk D k) (_hk : k < 1000000) (hv : RefAt w (refV A2 L2.length c2 V.last V.room V.left) V) (hokV : DOk V k) (ho : OpD.ok w (fun b => ¬ (b = tb ∨ b = mb)) ⟨4, file, n, ⟨xA, xc, xl⟩, kA, kc, K⟩) (_hx : xl.length ≤ 20000) (_hK : K.length ≤ 20000) :
    Calls Try.prog 12 #[.pointer (some ⟨tb, 0, none⟩), refV A2 L2.length c2 V.last V.room V.left, .agg #[.int .i64 4, .int .i64 file, .int .i64 n, .slice xA xl.length xc, .slice kA K.length kc]] w fun e w' => ∃ v', e = .returned (.tuple #[v', .bool ((dropD D file).2 == (dropD V file).2)]) ∧ RefAt w' v' ((dropD V file).1) ∧ (∃ L', DiskAt w' tb mb L' ((dropD D file).1)) ∧ Fr (fun g => g = tb ∨ g = mb) w w' := by
  obtain ⟨V', hV'⟩ : ∃ V', V' = (dropD V file).1 := ⟨_, rfl⟩
  obtain ⟨e2, he2⟩ : ∃ e2, e2 = (dropD V file).2 := ⟨_, rfl⟩
  obtain ⟨D', hD'⟩ : ∃ D', D' = (dropD D file).1 := ⟨_, rfl⟩
  obtain ⟨e1, he1⟩ : ∃ e1, e1 = (dropD D file).2 := ⟨_, rfl⟩
  rw [← hV', ← he2, ← hD', ← he1]
  have HV' := Lib.hid hV'
  have HE2 := Lib.hid he2
  have HD' := Lib.hid hD'
  have HE1 := Lib.hid he1
  clear hV' he2 hD' he1
  have hw3 : Below w.heap.size w (((w.alloc (.cells #[.slice A2 L2.length c2, .int .i64 V.last, .int .i64 V.room, .int .i64 V.left] 38)).alloc (.cells #[.int .i64 4, .int .i64 file, .int .i64 n, .slice xA xl.length xc, .slice kA K.length kc] 35)).alloc (.cells #[.slice none 0 0, .int .i64 0, .int .i64 0, .int .i64 0] 38)) := (((Below.refl _ _).alloc (Nat.le_refl _) _).alloc (by simp) _).alloc (by simp; omega) _
  have x0 : Blk (((w.alloc (.cells #[.slice A2 L2.length c2, .int .i64 V.last, .int .i64 V.room, .int .i64 V.left] 38)).alloc (.cells #[.int .i64 4, .int .i64 file, .int .i64 n, .slice xA xl.length xc, .slice kA K.length kc] 35)).alloc (.cells #[.slice none 0 0, .int .i64 0, .int .i64 0, .int .i64 0] 38)) w.heap.size 38 #[.slice A2 L2.length c2, .int .i64 V.last, .int .i64 V.room, .int .i64 V.left] := (Blk.new w 38 #[.slice A2 L2.length c2, .int .i64 V.last, .int .i64 V.room, .int .i64 V.left]).below ((((Below.refl _ _).alloc (Nat.le_refl _) _)).alloc (by simp) _)
  have x1 : Blk (((w.alloc (.cells #[.slice A2 L2.length c2, .int .i64 V.last, .int .i64 V.room, .int .i64 V.left] 38)).alloc (.cells #[.int .i64 4, .int .i64 file, .int .i64 n, .slice xA xl.length xc, .slice kA K.length kc] 35)).alloc (.cells #[.slice none 0 0, .int .i64 0, .int .i64 0, .int .i64 0] 38)) (w.heap.size + 1) 35 #[.int .i64 4, .int .i64 file, .int .i64 n, .slice xA xl.length xc, .slice kA K.length kc] := by
    have := (Blk.new (w.alloc (.cells #[.slice A2 L2.length c2, .int .i64 V.last, .int .i64 V.room, .int .i64 V.left] 38)) 35 #[.int .i64 4, .int .i64 file, .int .i64 n, .slice xA xl.length xc, .slice kA K.length kc]).below ((Below.refl _ _).alloc (Nat.le_refl _) (.cells #[.slice none 0 0, .int .i64 0, .int .i64 0, .int .i64 0] 38))
    rwa [show (w.alloc (.cells #[.slice A2 L2.length c2, .int .i64 V.last, .int .i64 V.room, .int .i64 V.left] 38)).heap.size = w.heap.size + 1 by simp] at this
  have x2 : Blk (((w.alloc (.cells #[.slice A2 L2.length c2, .int .i64 V.last, .int .i64 V.room, .int .i64 V.left] 38)).alloc (.cells #[.int .i64 4, .int .i64 file, .int .i64 n, .slice xA xl.length xc, .slice kA K.length kc] 35)).alloc (.cells #[.slice none 0 0, .int .i64 0, .int .i64 0, .int .i64 0] 38)) (w.heap.size + 1 + 1) 38 #[.slice none 0 0, .int .i64 0, .int .i64 0, .int .i64 0] := by
    have := Blk.new ((w.alloc (.cells #[.slice A2 L2.length c2, .int .i64 V.last, .int .i64 V.room, .int .i64 V.left] 38)).alloc (.cells #[.int .i64 4, .int .i64 file, .int .i64 n, .slice xA xl.length xc, .slice kA K.length kc] 35)) 38 #[.slice none 0 0, .int .i64 0, .int .i64 0, .int .i64 0]
    rwa [show ((w.alloc (.cells #[.slice A2 L2.length c2, .int .i64 V.last, .int .i64 V.room, .int .i64 V.left] 38)).alloc (.cells #[.int .i64 4, .int .i64 file, .int .i64 n, .slice xA xl.length xc, .slice kA K.length kc] 35)).heap.size = w.heap.size + 1 + 1 by simp] at this
  have tl := hd.blk.lt
  have ml := hd.map.lt
  have ST := Lib.hid (DoSt.below (w := w) (W := w) ⟨⟨L, hd⟩, hv, Fr.refl _ _⟩ hw3)
  have HX := Lib.hid (ho.below hw3)
  have HO := Lib.hid hok
  have HOV := Lib.hid hokV
  clear hd hv ho hok hokV
  go_enter Try.func12, Try.ntmps12
  go_upto_region 1 with (fail)
  generalize (((w.alloc (.cells #[.slice A2 L2.length c2, .int .i64 V.last, .int .i64 V.room, .int .i64 V.left] 38)).alloc (.cells #[.int .i64 4, .int .i64 file, .int .i64 n, .slice xA xl.length xc, .slice kA K.length kc] 35)).alloc (.cells #[.slice none 0 0, .int .i64 0, .int .i64 0, .int .i64 0] 38)) = w3 at *
  have o0 := x1.cell 0
  have o1 := x1.cell 1
  have o2 := x1.cell 2
  have o3 := x1.cell 3
  have o4 := x1.cell 4
  simp only [List.getElem?_toArray, List.getElem?_cons_zero, List.getElem?_cons_succ] at o0 o1 o2 o3 o4
  clear hw3
  have p0 := x0.cell 0
  have p1 := x0.cell 1
  have p2 := x0.cell 2
  have p3 := x0.cell 3
  simp only [List.getElem?_toArray, List.getElem?_cons_zero, List.getElem?_cons_succ] at p0 p1 p2 p3
  have HC := refDrop_any _ V k file w3 ST.out.ref HOV.out
  try dsimp only at HC
  rw [← HV'.out, ← HE2.out] at HC
  replace HC := Lib.hid HC
  go_wp2_with fail
  refine HC.out.mono ?_
  rintro e w4 ⟨v4, rfl, hr4, hb4⟩
  obtain ⟨A5, c5, L5, rfl, hF5, hc5, hp5⟩ := hr4.at_
  have ST4 := (ST.out.below hb4).ref' hr4
  have hba : Below w4.heap.size w4 (w4.alloc (.cells #[.slice A5 L5.length c5, .int .i64 V'.last, .int .i64 V'.room, .int .i64 V'.left] 38)) := (Below.refl _ _).alloc (Nat.le_refl _) _
  have y5 := Blk.new w4 38 #[.slice A5 L5.length c5, .int .i64 V'.last, .int .i64 V'.room, .int .i64 V'.left]
  have l45 : w.heap.size + 1 + 1 < w4.heap.size := Nat.lt_of_lt_of_le x2.lt hb4.size
  have ST5 := Lib.hid (ST4.below hba)
  have HX5 := Lib.hid ((HX.out.below hb4).below hba)
  have y1 := (x1.below hb4).below hba
  have y2 := (x2.below hb4).below hba
  clear HC ST HX x0 x1 x2 p0 p1 p2 p3 o0 o1 o2 o3 o4 hF5 hc5 hp5 hr4 ST4
  go_upto_region 14 with (fail)
  generalize w4.alloc (.cells #[.slice A5 L5.length c5, .int .i64 V'.last, .int .i64 V'.room, .int .i64 V'.left] 38) = w5 at *
  clear hba hb4
  obtain ⟨L6, hd6⟩ := ST5.out.disk
  have HD6 := Lib.hid hd6
  have HC := fun (W : World) (hW : Below w5.heap.size w5 W) => drop_any tb mb L6 D k file W (HD6.out.below hW) HO.out (by omega) (i64_wf HX5.out.f)
  try dsimp only at HC
  rw [← HD'.out, ← HE1.out] at HC
  replace HC := Lib.hid HC
  clear hd6
  go_wp2_with fail
  refine wp_region_line (.tell 0 (.tell 1 (.tell 2 (.tell 3 (.tell 5 (.one 4 (.tell 6 (.one 7 .done)))))))) (fun W => Fr (fun x => (x = tb ∨ x = mb) ∨ x = w.heap.size + 1 + 1) w5 W) (by kernel_rfl) (by kernel_rfl) ?_
  refine pl_val (by (simp only [List.getElem?_toArray, List.getElem?_cons_zero]; rfl)) (by kernel_rfl) ⟨_, (by (intro w' hC; have q0 := (y5.fr hC (by omega)).cell 0; have q1 := (y5.fr hC (by omega)).cell 1; have q2 := (y5.fr hC (by omega)).cell 2; have q3 := (y5.fr hC (by omega)).cell 3; simp only [List.getElem?_toArray, List.getElem?_cons_zero, List.getElem?_cons_succ] at q0 q1 q2 q3; clear hC; (try go_simp); (try with_reducible rfl); done)), _, (by (simp only [Act.put, List.setIfInBounds_toArray, List.set_cons_zero, List.set_cons_succ]; rfl)), ?_⟩
  refine pl_val (by (simp only [List.getElem?_toArray, List.getElem?_cons_succ, List.getElem?_cons_zero]; rfl)) (by kernel_rfl) ⟨_, (by (intro w' hC; clear hC; (try go_simp); (try with_reducible rfl); done)), _, (by (simp only [Act.put, List.setIfInBounds_toArray, List.set_cons_zero, List.set_cons_succ]; rfl)), ?_⟩
  refine pl_val (by (simp only [List.getElem?_toArray, List.getElem?_cons_succ, List.getElem?_cons_zero]; rfl)) (by kernel_rfl) ⟨_, (by (intro w' hC; clear hC; (try go_simp); (try with_reducible rfl); done)), _, (by (simp only [Act.put, List.setIfInBounds_toArray, List.set_cons_zero, List.set_cons_succ]; rfl)), ?_⟩
  refine pl_val (by (simp only [List.getElem?_toArray, List.getElem?_cons_succ, List.getElem?_cons_zero]; rfl)) (by kernel_rfl) ⟨_, (by (intro w' hC; have q := (y1.fr hC (by omega)).cell 1; simp only [List.getElem?_toArray, List.getElem?_cons_zero, List.getElem?_cons_succ] at q; clear hC; (try go_simp); (try with_reducible rfl); done)), _, (by (simp only [Act.put, List.setIfInBounds_toArray, List.set_cons_zero, List.set_cons_succ]; rfl)), ?_⟩
  refine pl_val (by (simp only [List.getElem?_toArray, List.getElem?_cons_succ, List.getElem?_cons_zero]; rfl)) (by kernel_rfl) ⟨_, (by (intro w' hC; clear hC; (try go_simp); (try with_reducible rfl); done)), _, (by (simp only [Act.put, List.setIfInBounds_toArray, List.set_cons_zero, List.set_cons_succ]; rfl)), ?_⟩
  have hC0 : Fr (fun x => (x = tb ∨ x = mb) ∨ x = w.heap.size + 1 + 1) w5 w5.drew := (Fr.refl _ w5).drew
  refine pl_one (by (simp only [List.getElem?_toArray, List.getElem?_cons_succ, List.getElem?_cons_zero]; rfl)) hC0 ?_
  refine al_call (by kernel_rfl) (by go_simp; done) (HC.out w5.drew (Below.refl _ _).drew) ?_
  rintro e w6 ⟨rfl, h6⟩
  replace h6 : DiskTo w5 tb mb D' w6 := ⟨h6.at_, (Fr.of_below (Below.refl _ _).drew _).trans h6.fr (fun _ _ e => e)⟩
  refine ⟨_, rfl, _, (by (simp only [Act.put, List.setIfInBounds_toArray, List.set_cons_zero, List.set_cons_succ]; rfl)), ?_⟩
  refine pl_val (by (simp only [List.getElem?_toArray, List.getElem?_cons_succ, List.getElem?_cons_zero]; rfl)) (by kernel_rfl) ⟨_, (by (intro w' hC; clear hC; (try go_simp); (try with_reducible rfl); done)), _, (by (simp only [Act.put, List.setIfInBounds_toArray, List.set_cons_zero, List.set_cons_succ]; rfl)), ?_⟩
  have h6S : Fr (fun x => (x = tb ∨ x = mb) ∨ x = w.heap.size + 1 + 1) w5 w6 := h6.fr.mono (fun _ _ e => .inl e)
  have ST := Lib.hid (ST5.out.to h6)
  have z2 := y2.fr h6.fr (by omega)
  have fr := fun o => z2.frozen o
  have r0 := z2.cell 0
  have r1 := z2.cell 1
  have r2 := z2.cell 2
  have r3 := z2.cell 3
  simp only [List.getElem?_toArray, List.getElem?_cons_zero, List.getElem?_cons_succ] at r0 r1 r2 r3
  refine pl_one (by (simp only [List.getElem?_toArray, List.getElem?_cons_succ, List.getElem?_cons_zero]; rfl)) h6S ?_
  refine al_skip (by kernel_rfl) ⟨_, (by (go_simp; first | done | rfl)), _, (by (simp only [Act.put]; rfl)), ?_⟩
  refine pl_end ((((h6S.setAt (w.heap.size + 1 + 1) 0 (.inr rfl) _).setAt (w.heap.size + 1 + 1) 1 (.inr rfl) _).setAt (w.heap.size + 1 + 1) 2 (.inr rfl) _).setAt (w.heap.size + 1 + 1) 3 (.inr rfl) _) ?_
  simp only [Plan.count, Nat.reduceAdd, List.drop_succ_cons, List.drop_zero]
  clear HC HD6 y1 y2 y5 HX5 ST5 hC0 h6S
  go_wp2_with fail
  have kR : Fr (fun x => x = w.heap.size + 1 + 1) w6 ((((w6.setCell ⟨w.heap.size + 1 + 1, 0, none⟩ (.slice A5 L5.length c5)).setCell ⟨w.heap.size + 1 + 1, 1, none⟩ (.int .i64 V'.last)).setCell ⟨w.heap.size + 1 + 1, 2, none⟩ (.int .i64 V'.room)).setCell ⟨w.heap.size + 1 + 1, 3, none⟩ (.int .i64 V'.left)) := (((((Fr.refl (fun x => x = w.heap.size + 1 + 1) w6).setAt (w.heap.size + 1 + 1) _ rfl _).setAt (w.heap.size + 1 + 1) _ rfl _).setAt (w.heap.size + 1 + 1) _ rfl _).setAt (w.heap.size + 1 + 1) _ rfl _)
  have yR := ((((z2.set_ 0 (.slice A5 L5.length c5)).set_ 1 (.int .i64 V'.last)).set_ 2 (.int .i64 V'.room)).set_ 3 (.int .i64 V'.left))
  simp only [List.setIfInBounds_toArray, List.set_cons_zero, List.set_cons_succ] at yR
  have STR := ST.out.put z2 kR (by omega) tl ml
  generalize ((((w6.setCell ⟨w.heap.size + 1 + 1, 0, none⟩ (.slice A5 L5.length c5)).setCell ⟨w.heap.size + 1 + 1, 1, none⟩ (.int .i64 V'.last)).setCell ⟨w.heap.size + 1 + 1, 2, none⟩ (.int .i64 V'.room)).setCell ⟨w.heap.size + 1 + 1, 3, none⟩ (.int .i64 V'.left)) = wR at *
  have s0 := yR.cell 0
  have s1 := yR.cell 1
  have s2 := yR.cell 2
  have s3 := yR.cell 3
  simp only [List.getElem?_toArray, List.getElem?_cons_zero, List.getElem?_cons_succ] at s0 s1 s2 s3
  refine bodyPost_ret (v := .tuple #[.agg #[.slice A5 L5.length c5, .int .i64 V'.last, .int .i64 V'.room, .int .i64 V'.left], .bool (e1 == e2)]) (by simp [results, Try.results12, go_sem, s0, s1, s2, s3]) rfl ?_
  exact ⟨_, rfl, STR.ref, STR.disk, STR.fr⟩


set_option maxRecDepth 100000 in
set_option maxHeartbeats 4000000 in
theorem do_make (tb mb : Nat) (L : List (Int × FV)) (D V : DP) (k : Nat) (A2 : Option Addr) (c2 : Nat) (L2 : List (Int × FV)) (file n : Int) (xA : Option Addr) (xc : Nat) (xl : List UInt8) (kA : Option Addr) (kc : Nat) (K : List (Int × Int)) (w : World) (hd : DiskAt w tb mb L D) (hok : DOk D k) (_hk : k < 1000000) (hv : RefAt w (refV A2 L2.length c2 V.last V.room V.left) V) (hokV : DOk V k) (ho : OpD.ok w (fun b => ¬ (b = tb ∨ b = mb)) ⟨1, file, n, ⟨xA, xc, xl⟩, kA, kc, K⟩) (_hx : xl.length ≤ 20000) (_hK : K.length ≤ 20000) :
    Calls Try.prog 12 #[.pointer (some ⟨tb, 0, none⟩), refV A2 L2.length c2 V.last V.room V.left, .agg #[.int .i64 1, .int .i64 file, .int .i64 n, .slice xA xl.length xc, .slice kA K.length kc]] w fun e w' => ∃ v', e = .returned (.tuple #[v', .bool ((makeS D).2.1 == (makeS V).2.1 && (makeS D).2.2 == (makeS V).2.2)]) ∧ RefAt w' v' ((makeS V).1) ∧ (∃ L', DiskAt w' tb mb L' ((makeS D).1)) ∧ Fr (fun g => g = tb ∨ g = mb) w w' := by
  obtain ⟨V', hV'⟩ : ∃ V', V' = (makeS V).1 := ⟨_, rfl⟩
  obtain ⟨D', hD'⟩ : ∃ D', D' = (makeS D).1 := ⟨_, rfl⟩
  obtain ⟨n2, hn2⟩ : ∃ n2, n2 = (makeS V).2.1 := ⟨_, rfl⟩
  obtain ⟨e2, he2⟩ : ∃ e2, e2 = (makeS V).2.2 := ⟨_, rfl⟩
  obtain ⟨n1, hn1⟩ : ∃ n1, n1 = (makeS D).2.1 := ⟨_, rfl⟩
  obtain ⟨e1, he1⟩ : ∃ e1, e1 = (makeS D).2.2 := ⟨_, rfl⟩
  rw [← hV', ← hD', ← hn2, ← he2, ← hn1, ← he1]
  have HV' := Lib.hid hV'
  have HD' := Lib.hid hD'
  have Hn2 := Lib.hid hn2
  have He2 := Lib.hid he2
  have Hn1 := Lib.hid hn1
  have He1 := Lib.hid he1
  clear hV' hD' hn2 he2 hn1 he1
  have hw3 : Below w.heap.size w (((w.alloc (.cells #[.slice A2 L2.length c2, .int .i64 V.last, .int .i64 V.room, .int .i64 V.left] 38)).alloc (.cells #[.int .i64 1, .int .i64 file, .int .i64 n, .slice xA xl.length xc, .slice kA K.length kc] 35)).alloc (.cells #[.slice none 0 0, .int .i64 0, .int .i64 0, .int .i64 0] 38)) := (((Below.refl _ _).alloc (Nat.le_refl _) _).alloc (by simp) _).alloc (by simp; omega) _
  have x0 : Blk (((w.alloc (.cells #[.slice A2 L2.length c2, .int .i64 V.last, .int .i64 V.room, .int .i64 V.left] 38)).alloc (.cells #[.int .i64 1, .int .i64 file, .int .i64 n, .slice xA xl.length xc, .slice kA K.length kc] 35)).alloc (.cells #[.slice none 0 0, .int .i64 0, .int .i64 0, .int .i64 0] 38)) w.heap.size 38 #[.slice A2 L2.length c2, .int .i64 V.last, .int .i64 V.room, .int .i64 V.left] := (Blk.new w 38 #[.slice A2 L2.length c2, .int .i64 V.last, .int .i64 V.room, .int .i64 V.left]).below ((((Below.refl _ _).alloc (Nat.le_refl _) _)).alloc (by simp) _)
  have x1 : Blk (((w.alloc (.cells #[.slice A2 L2.length c2, .int .i64 V.last, .int .i64 V.room, .int .i64 V.left] 38)).alloc (.cells #[.int .i64 1, .int .i64 file, .int .i64 n, .slice xA xl.length xc, .slice kA K.length kc] 35)).alloc (.cells #[.slice none 0 0, .int .i64 0, .int .i64 0, .int .i64 0] 38)) (w.heap.size + 1) 35 #[.int .i64 1, .int .i64 file, .int .i64 n, .slice xA xl.length xc, .slice kA K.length kc] := by
    have := (Blk.new (w.alloc (.cells #[.slice A2 L2.length c2, .int .i64 V.last, .int .i64 V.room, .int .i64 V.left] 38)) 35 #[.int .i64 1, .int .i64 file, .int .i64 n, .slice xA xl.length xc, .slice kA K.length kc]).below ((Below.refl _ _).alloc (Nat.le_refl _) (.cells #[.slice none 0 0, .int .i64 0, .int .i64 0, .int .i64 0] 38))
    rwa [show (w.alloc (.cells #[.slice A2 L2.length c2, .int .i64 V.last, .int .i64 V.room, .int .i64 V.left] 38)).heap.size = w.heap.size + 1 by simp] at this
  have x2 : Blk (((w.alloc (.cells #[.slice A2 L2.length c2, .int .i64 V.last, .int .i64 V.room, .int .i64 V.left] 38)).alloc (.cells #[.int .i64 1, .int .i64 file, .int .i64 n, .slice xA xl.length xc, .slice kA K.length kc] 35)).alloc (.cells #[.slice none 0 0, .int .i64 0, .int .i64 0, .int .i64 0] 38)) (w.heap.size + 1 + 1) 38 #[.slice none 0 0, .int .i64 0, .int .i64 0, .int .i64 0] := by
    have := Blk.new ((w.alloc (.cells #[.slice A2 L2.length c2, .int .i64 V.last, .int .i64 V.room, .int .i64 V.left] 38)).alloc (.cells #[.int .i64 1, .int .i64 file, .int .i64 n, .slice xA xl.length xc, .slice kA K.length kc] 35)) 38 #[.slice none 0 0, .int .i64 0, .int .i64 0, .int .i64 0]
    rwa [show ((w.alloc (.cells #[.slice A2 L2.length c2, .int .i64 V.last, .int .i64 V.room, .int .i64 V.left] 38)).alloc (.cells #[.int .i64 1, .int .i64 file, .int .i64 n, .slice xA xl.length xc, .slice kA K.length kc] 35)).heap.size = w.heap.size + 1 + 1 by simp] at this
  have tl := hd.blk.lt
  have ml := hd.map.lt
  have ST := Lib.hid (DoSt.below (w := w) (W := w) ⟨⟨L, hd⟩, hv, Fr.refl _ _⟩ hw3)
  have HX := Lib.hid (ho.below hw3)
  have HO := Lib.hid hok
  have HOV := Lib.hid hokV
  clear hd hv ho hok hokV
  go_enter Try.func12, Try.ntmps12
  go_upto_region 1 with (fail)
  generalize (((w.alloc (.cells #[.slice A2 L2.length c2, .int .i64 V.last, .int .i64 V.room, .int .i64 V.left] 38)).alloc (.cells #[.int .i64 1, .int .i64 file, .int .i64 n, .slice xA xl.length xc, .slice kA K.length kc] 35)).alloc (.cells #[.slice none 0 0, .int .i64 0, .int .i64 0, .int .i64 0] 38)) = w3 at *
  have o0 := x1.cell 0
  have o1 := x1.cell 1
  have o2 := x1.cell 2
  have o3 := x1.cell 3
  have o4 := x1.cell 4
  simp only [List.getElem?_toArray, List.getElem?_cons_zero, List.getElem?_cons_succ] at o0 o1 o2 o3 o4
  clear hw3
  obtain ⟨L6, hd6⟩ := ST.out.disk
  have HC := make_any tb mb L6 D k w3 hd6 HO.out (by omega)
  rw [← HD'.out, ← Hn1.out, ← He1.out] at HC
  replace HC := Lib.hid HC
  clear hd6
  go_wp2_with fail
  refine HC.out.mono ?_
  rintro e w4 ⟨rfl, h4⟩
  have ST4 := ST.out.to h4
  have y0 := x0.fr h4.fr (by omega)
  have y1 := x1.fr h4.fr (by omega)
  have y2 := x2.fr h4.fr (by omega)
  have HC2 := refMake_at _ V k w4 ST4.ref HOV.out (by omega)
  rw [← HV'.out, ← Hn2.out, ← He2.out] at HC2
  replace HC2 := Lib.hid HC2
  have HS4 := Lib.hid ST4
  clear HC ST ST4 x0 x1 x2 o0 o1 o2 o3 o4 HX h4
  have p0 := y0.cell 0
  have p1 := y0.cell 1
  have p2 := y0.cell 2
  have p3 := y0.cell 3
  simp only [List.getElem?_toArray, List.getElem?_cons_zero, List.getElem?_cons_succ] at p0 p1 p2 p3
  go_wp2_with fail
  refine HC2.out.mono ?_
  rintro e w5 ⟨v5, rfl, hr5, hb5⟩
  obtain ⟨A5, c5, L5, rfl, hF5, hc5, hp5⟩ := hr5.at_
  have ST5 := (HS4.out.below hb5).ref' hr5
  have hba : Below w5.heap.size w5 (w5.alloc (.cells #[.slice A5 L5.length c5, .int .i64 V'.last, .int .i64 V'.room, .int .i64 V'.left] 38)) := (Below.refl _ _).alloc (Nat.le_refl _) _
  have ST := Lib.hid (ST5.below hba)
  have y5 := Blk.new w5 38 #[.slice A5 L5.length c5, .int .i64 V'.last, .int .i64 V'.room, .int .i64 V'.left]
  replace y2 := (y2.below hb5).below hba
  clear HC2 HS4 y0 y1 p0 p1 p2 p3 hF5 hc5 hp5 hr5 ST5
  go_upto_region 5 with (fail)
  generalize w5.alloc (.cells #[.slice A5 L5.length c5, .int .i64 V'.last, .int .i64 V'.room, .int .i64 V'.left] 38) = w6 at *
  clear hba hb5
  have p0 := y5.cell 0
  have p1 := y5.cell 1
  have p2 := y5.cell 2
  have p3 := y5.cell 3
  simp only [List.getElem?_toArray, List.getElem?_cons_zero, List.getElem?_cons_succ] at p0 p1 p2 p3
  have r0 := y2.cell 0
  have r1 := y2.cell 1
  have r2 := y2.cell 2
  have r3 := y2.cell 3
  simp only [List.getElem?_toArray, List.getElem?_cons_zero, List.getElem?_cons_succ] at r0 r1 r2 r3
  have fr := fun o => y2.frozen o
  by_cases hn : n1 = n2
  · have hnb : (n1 == n2) = true := by simpa using hn
    have HNB := Lib.hid hnb
    clear hn
    go_wp2_with fail
    have kR : Fr (fun x => x = w.heap.size + 1 + 1) w6 ((((w6.setCell ⟨w.heap.size + 1 + 1, 0, none⟩ (.slice A5 L5.length c5)).setCell ⟨w.heap.size + 1 + 1, 1, none⟩ (.int .i64 V'.last)).setCell ⟨w.heap.size + 1 + 1, 2, none⟩ (.int .i64 V'.room)).setCell ⟨w.heap.size + 1 + 1, 3, none⟩ (.int .i64 V'.left)) := (((((Fr.refl (fun x => x = w.heap.size + 1 + 1) w6).setAt (w.heap.size + 1 + 1) _ rfl _).setAt (w.heap.size + 1 + 1) _ rfl _).setAt (w.heap.size + 1 + 1) _ rfl _).setAt (w.heap.size + 1 + 1) _ rfl _)
    have yR := ((((y2.set_ 0 (.slice A5 L5.length c5)).set_ 1 (.int .i64 V'.last)).set_ 2 (.int .i64 V'.room)).set_ 3 (.int .i64 V'.left))
    simp only [List.setIfInBounds_toArray, List.set_cons_zero, List.set_cons_succ] at yR
    have STR := ST.out.put y2 kR (by omega) tl ml
    generalize ((((w6.setCell ⟨w.heap.size + 1 + 1, 0, none⟩ (.slice A5 L5.length c5)).setCell ⟨w.heap.size + 1 + 1, 1, none⟩ (.int .i64 V'.last)).setCell ⟨w.heap.size + 1 + 1, 2, none⟩ (.int .i64 V'.room)).setCell ⟨w.heap.size + 1 + 1, 3, none⟩ (.int .i64 V'.left)) = wR at *
    have s0 := yR.cell 0
    have s1 := yR.cell 1
    have s2 := yR.cell 2
    have s3 := yR.cell 3
    simp only [List.getElem?_toArray, List.getElem?_cons_zero, List.getElem?_cons_succ] at s0 s1 s2 s3
    refine bodyPost_ret (v := .tuple #[.agg #[.slice A5 L5.length c5, .int .i64 V'.last, .int .i64 V'.room, .int .i64 V'.left], .bool (e1 == e2)]) (by simp [results, Try.results12, go_sem, s0, s1, s2, s3]) rfl ?_
    exact ⟨_, (by rw [HNB.out]; rfl), STR.ref, STR.disk, STR.fr⟩
  · have hnb : (n1 == n2) = false := by simpa using hn
    have HNB := Lib.hid hnb
    clear hn
    go_wp2_with fail
    have kR : Fr (fun x => x = w.heap.size + 1 + 1) w6 ((((w6.setCell ⟨w.heap.size + 1 + 1, 0, none⟩ (.slice A5 L5.length c5)).setCell ⟨w.heap.size + 1 + 1, 1, none⟩ (.int .i64 V'.last)).setCell ⟨w.heap.size + 1 + 1, 2, none⟩ (.int .i64 V'.room)).setCell ⟨w.heap.size + 1 + 1, 3, none⟩ (.int .i64 V'.left)) := (((((Fr.refl (fun x => x = w.heap.size + 1 + 1) w6).setAt (w.heap.size + 1 + 1) _ rfl _).setAt (w.heap.size + 1 + 1) _ rfl _).setAt (w.heap.size + 1 + 1) _ rfl _).setAt (w.heap.size + 1 + 1) _ rfl _)
    have yR := ((((y2.set_ 0 (.slice A5 L5.length c5)).set_ 1 (.int .i64 V'.last)).set_ 2 (.int .i64 V'.room)).set_ 3 (.int .i64 V'.left))
    simp only [List.setIfInBounds_toArray, List.set_cons_zero, List.set_cons_succ] at yR
    have STR := ST.out.put y2 kR (by omega) tl ml
    generalize ((((w6.setCell ⟨w.heap.size + 1 + 1, 0, none⟩ (.slice A5 L5.length c5)).setCell ⟨w.heap.size + 1 + 1, 1, none⟩ (.int .i64 V'.last)).setCell ⟨w.heap.size + 1 + 1, 2, none⟩ (.int .i64 V'.room)).setCell ⟨w.heap.size + 1 + 1, 3, none⟩ (.int .i64 V'.left)) = wR at *
    have s0 := yR.cell 0
    have s1 := yR.cell 1
    have s2 := yR.cell 2
    have s3 := yR.cell 3
    simp only [List.getElem?_toArray, List.getElem?_cons_zero, List.getElem?_cons_succ] at s0 s1 s2 s3
    refine bodyPost_ret (v := .tuple #[.agg #[.slice A5 L5.length c5, .int .i64 V'.last, .int .i64 V'.room, .int .i64 V'.left], .bool false]) (by simp [results, Try.results12, go_sem, s0, s1, s2, s3]) rfl ?_
    exact ⟨_, (by rw [HNB.out]; rfl), STR.ref, STR.disk, STR.fr⟩


set_option maxRecDepth 100000 in
set_option maxHeartbeats 4000000 in
theorem do_stop (tb mb : Nat) (L : List (Int × FV)) (D V : DP) (k : Nat) (A2 : Option Addr) (c2 : Nat) (L2 : List (Int × FV)) (file n : Int) (xA : Option Addr) (xc : Nat) (xl : List UInt8) (kA : Option Addr) (kc : Nat) (K : List (Int × Int)) (w : World) (hd : DiskAt w tb mb L D) (hok : DOk D k) (_hk : k < 1000000) (hv : RefAt w (refV A2 L2.length c2 V.last V.room V.left) V) (hokV : DOk V k) (ho : OpD.ok w (fun b => ¬ (b = tb ∨ b = mb)) ⟨6, file, n, ⟨xA, xc, xl⟩, kA, kc, K⟩) (_hx : xl.length ≤ 20000) (_hK : K.length ≤ 20000) :
    Calls Try.prog 12 #[.pointer (some ⟨tb, 0, none⟩), refV A2 L2.length c2 V.last V.room V.left, .agg #[.int .i64 6, .int .i64 file, .int .i64 n, .slice xA xl.length xc, .slice kA K.length kc]] w fun e w' => ∃ v', e = .returned (.tuple #[v', .bool (true)]) ∧ RefAt w' v' (stopS V n) ∧ (∃ L', DiskAt w' tb mb L' (stopS D n)) ∧ Fr (fun g => g = tb ∨ g = mb) w w' := by
  obtain ⟨V', hV'⟩ : ∃ V', V' = stopS V n := ⟨_, rfl⟩
  obtain ⟨D', hD'⟩ : ∃ D', D' = stopS D n := ⟨_, rfl⟩
  rw [← hV', ← hD']
  have HV' := Lib.hid hV'
  have HD' := Lib.hid hD'
  clear hV' hD'
  have hw3 : Below w.heap.size w (((w.alloc (.cells #[.slice A2 L2.length c2, .int .i64 V.last, .int .i64 V.room, .int .i64 V.left] 38)).alloc (.cells #[.int .i64 6, .int .i64 file, .int .i64 n, .slice xA xl.length xc, .slice kA K.length kc] 35)).alloc (.cells #[.slice none 0 0, .int .i64 0, .int .i64 0, .int .i64 0] 38)) := (((Below.refl _ _).alloc (Nat.le_refl _) _).alloc (by simp) _).alloc (by simp; omega) _
  have x0 : Blk (((w.alloc (.cells #[.slice A2 L2.length c2, .int .i64 V.last, .int .i64 V.room, .int .i64 V.left] 38)).alloc (.cells #[.int .i64 6, .int .i64 file, .int .i64 n, .slice xA xl.length xc, .slice kA K.length kc] 35)).alloc (.cells #[.slice none 0 0, .int .i64 0, .int .i64 0, .int .i64 0] 38)) w.heap.size 38 #[.slice A2 L2.length c2, .int .i64 V.last, .int .i64 V.room, .int .i64 V.left] := (Blk.new w 38 #[.slice A2 L2.length c2, .int .i64 V.last, .int .i64 V.room, .int .i64 V.left]).below ((((Below.refl _ _).alloc (Nat.le_refl _) _)).alloc (by simp) _)
  have x1 : Blk (((w.alloc (.cells #[.slice A2 L2.length c2, .int .i64 V.last, .int .i64 V.room, .int .i64 V.left] 38)).alloc (.cells #[.int .i64 6, .int .i64 file, .int .i64 n, .slice xA xl.length xc, .slice kA K.length kc] 35)).alloc (.cells #[.slice none 0 0, .int .i64 0, .int .i64 0, .int .i64 0] 38)) (w.heap.size + 1) 35 #[.int .i64 6, .int .i64 file, .int .i64 n, .slice xA xl.length xc, .slice kA K.length kc] := by
    have := (Blk.new (w.alloc (.cells #[.slice A2 L2.length c2, .int .i64 V.last, .int .i64 V.room, .int .i64 V.left] 38)) 35 #[.int .i64 6, .int .i64 file, .int .i64 n, .slice xA xl.length xc, .slice kA K.length kc]).below ((Below.refl _ _).alloc (Nat.le_refl _) (.cells #[.slice none 0 0, .int .i64 0, .int .i64 0, .int .i64 0] 38))
    rwa [show (w.alloc (.cells #[.slice A2 L2.length c2, .int .i64 V.last, .int .i64 V.room, .int .i64 V.left] 38)).heap.size = w.heap.size + 1 by simp] at this
  have x2 : Blk (((w.alloc (.cells #[.slice A2 L2.length c2, .int .i64 V.last, .int .i64 V.room, .int .i64 V.left] 38)).alloc (.cells #[.int .i64 6, .int .i64 file, .int .i64 n, .slice xA xl.length xc, .slice kA K.length kc] 35)).alloc (.cells #[.slice none 0 0, .int .i64 0, .int .i64 0, .int .i64 0] 38)) (w.heap.size + 1 + 1) 38 #[.slice none 0 0, .int .i64 0, .int .i64 0, .int .i64 0] := by
    have := Blk.new ((w.alloc (.cells #[.slice A2 L2.length c2, .int .i64 V.last, .int .i64 V.room, .int .i64 V.left] 38)).alloc (.cells #[.int .i64 6, .int .i64 file, .int .i64 n, .slice xA xl.length xc, .slice kA K.length kc] 35)) 38 #[.slice none 0 0, .int .i64 0, .int .i64 0, .int .i64 0]
    rwa [show ((w.alloc (.cells #[.slice A2 L2.length c2, .int .i64 V.last, .int .i64 V.room, .int .i64 V.left] 38)).alloc (.cells #[.int .i64 6, .int .i64 file, .int .i64 n, .slice xA xl.length xc, .slice kA K.length kc] 35)).heap.size = w.heap.size + 1 + 1 by simp] at this
  have tl := hd.blk.lt
  have ml := hd.map.lt
  have ST := Lib.hid (DoSt.below (w := w) (W := w) ⟨⟨L, hd⟩, hv, Fr.refl _ _⟩ hw3)
  have HX := Lib.hid (ho.below hw3)
  have HO := Lib.hid hok
  have HOV := Lib.hid hokV
  clear hd hv ho hok hokV
  go_enter Try.func12, Try.ntmps12
  go_upto_region 1 with (fail)
  generalize (((w.alloc (.cells #[.slice A2 L2.length c2, .int .i64 V.last, .int .i64 V.room, .int .i64 V.left] 38)).alloc (.cells #[.int .i64 6, .int .i64 file, .int .i64 n, .slice xA xl.length xc, .slice kA K.length kc] 35)).alloc (.cells #[.slice none 0 0, .int .i64 0, .int .i64 0, .int .i64 0] 38)) = w3 at *
  have o0 := x1.cell 0
  have o1 := x1.cell 1
  have o2 := x1.cell 2
  have o3 := x1.cell 3
  have o4 := x1.cell 4
  simp only [List.getElem?_toArray, List.getElem?_cons_zero, List.getElem?_cons_succ] at o0 o1 o2 o3 o4
  clear hw3
  obtain ⟨L6, hd6⟩ := ST.out.disk
  have HC := stop_any tb mb L6 D n w3 hd6
  rw [← HD'.out] at HC
  replace HC := Lib.hid HC
  clear hd6
  go_wp2_with fail
  refine HC.out.mono ?_
  rintro e w4 ⟨rfl, h4⟩
  have ST4 := ST.out.to h4
  have y0 := x0.fr h4.fr (by omega)
  have y1 := x1.fr h4.fr (by omega)
  have y2 := x2.fr h4.fr (by omega)
  have HX4 := HX.out.fr h4.fr (fun _ _ hz e => hz e)
  have HC2 := refStop_any _ V n w4 ST4.ref
  rw [← HV'.out] at HC2
  replace HC2 := Lib.hid HC2
  have HS4 := Lib.hid ST4
  clear HC ST ST4 x0 x1 x2 o0 o1 o2 o3 o4 HX HX4 h4
  have p0 := y0.cell 0
  have p1 := y0.cell 1
  have p2 := y0.cell 2
  have p3 := y0.cell 3
  simp only [List.getElem?_toArray, List.getElem?_cons_zero, List.getElem?_cons_succ] at p0 p1 p2 p3
  have o0 := y1.cell 0
  have o1 := y1.cell 1
  have o2 := y1.cell 2
  have o3 := y1.cell 3
  have o4 := y1.cell 4
  simp only [List.getElem?_toArray, List.getElem?_cons_zero, List.getElem?_cons_succ] at o0 o1 o2 o3 o4
  go_wp2_with fail
  refine HC2.out.mono ?_
  rintro e w5 ⟨v5, rfl, hr5, hb5⟩
  obtain ⟨A5, c5, L5, rfl, hF5, hc5, hp5⟩ := hr5.at_
  have ST := Lib.hid ((HS4.out.below hb5).ref' hr5)
  replace y2 := y2.below hb5
  have fr := fun o => y2.frozen o
  clear HC2 HS4 y0 y1 p0 p1 p2 p3 o0 o1 o2 o3 o4 hF5 hc5 hp5 hr5 hb5
  have r0 := y2.cell 0
  have r1 := y2.cell 1
  have r2 := y2.cell 2
  have r3 := y2.cell 3
  simp only [List.getElem?_toArray, List.getElem?_cons_zero, List.getElem?_cons_succ] at r0 r1 r2 r3
  go_wp2_with fail
  have kR : Fr (fun x => x = w.heap.size + 1 + 1) w5 ((((w5.setCell ⟨w.heap.size + 1 + 1, 0, none⟩ (.slice A5 L5.length c5)).setCell ⟨w.heap.size + 1 + 1, 1, none⟩ (.int .i64 V'.last)).setCell ⟨w.heap.size + 1 + 1, 2, none⟩ (.int .i64 V'.room)).setCell ⟨w.heap.size + 1 + 1, 3, none⟩ (.int .i64 V'.left)) := (((((Fr.refl (fun x => x = w.heap.size + 1 + 1) w5).setAt (w.heap.size + 1 + 1) _ rfl _).setAt (w.heap.size + 1 + 1) _ rfl _).setAt (w.heap.size + 1 + 1) _ rfl _).setAt (w.heap.size + 1 + 1) _ rfl _)
  have yR := ((((y2.set_ 0 (.slice A5 L5.length c5)).set_ 1 (.int .i64 V'.last)).set_ 2 (.int .i64 V'.room)).set_ 3 (.int .i64 V'.left))
  simp only [List.setIfInBounds_toArray, List.set_cons_zero, List.set_cons_succ] at yR
  have STR := ST.out.put y2 kR (by omega) tl ml
  generalize ((((w5.setCell ⟨w.heap.size + 1 + 1, 0, none⟩ (.slice A5 L5.length c5)).setCell ⟨w.heap.size + 1 + 1, 1, none⟩ (.int .i64 V'.last)).setCell ⟨w.heap.size + 1 + 1, 2, none⟩ (.int .i64 V'.room)).setCell ⟨w.heap.size + 1 + 1, 3, none⟩ (.int .i64 V'.left)) = wR at *
  have s0 := yR.cell 0
  have s1 := yR.cell 1
  have s2 := yR.cell 2
  have s3 := yR.cell 3
  simp only [List.getElem?_toArray, List.getElem?_cons_zero, List.getElem?_cons_succ] at s0 s1 s2 s3
  refine bodyPost_ret (v := .tuple #[.agg #[.slice A5 L5.length c5, .int .i64 V'.last, .int .i64 V'.room, .int .i64 V'.left], .bool true]) (by simp [results, Try.results12, go_sem, s0, s1, s2, s3]) rfl ?_
  exact ⟨_, rfl, STR.ref, STR.disk, STR.fr⟩


set_option maxRecDepth 100000 in
set_option maxHeartbeats 4000000 in
theorem do_crash (tb mb : Nat) (L : List (Int × FV)) (D V : DP) (k : Nat) (A2 : Option Addr) (c2 : Nat) (L2 : List (Int × FV)) (file n : Int) (xA : Option Addr) (xc : Nat) (xl : List UInt8) (kA : Option Addr) (kc : Nat) (K : List (Int × Int)) (w : World) (hd : DiskAt w tb mb L D) (hok : DOk D k) (_hk : k < 1000000) (hv : RefAt w (refV A2 L2.length c2 V.last V.room V.left) V) (hokV : DOk V k) (ho : OpD.ok w (fun b => ¬ (b = tb ∨ b = mb)) ⟨7, file, n, ⟨xA, xc, xl⟩, kA, kc, K⟩) (_hx : xl.length ≤ 20000) (_hK : K.length ≤ 20000) :
    Calls Try.prog 12 #[.pointer (some ⟨tb, 0, none⟩), refV A2 L2.length c2 V.last V.room V.left, .agg #[.int .i64 7, .int .i64 file, .int .i64 n, .slice xA xl.length xc, .slice kA K.length kc]] w fun e w' => ∃ v', e = .returned (.tuple #[v', .bool (true)]) ∧ RefAt w' v' (crashS V K) ∧ (∃ L', DiskAt w' tb mb L' (crashS D K)) ∧ Fr (fun g => g = tb ∨ g = mb) w w' := by
  obtain ⟨V', hV'⟩ : ∃ V', V' = crashS V K := ⟨_, rfl⟩
  obtain ⟨D', hD'⟩ : ∃ D', D' = crashS D K := ⟨_, rfl⟩
  rw [← hV', ← hD']
  have HV' := Lib.hid hV'
  have HD' := Lib.hid hD'
  clear hV' hD'
  have hw3 : Below w.heap.size w (((w.alloc (.cells #[.slice A2 L2.length c2, .int .i64 V.last, .int .i64 V.room, .int .i64 V.left] 38)).alloc (.cells #[.int .i64 7, .int .i64 file, .int .i64 n, .slice xA xl.length xc, .slice kA K.length kc] 35)).alloc (.cells #[.slice none 0 0, .int .i64 0, .int .i64 0, .int .i64 0] 38)) := (((Below.refl _ _).alloc (Nat.le_refl _) _).alloc (by simp) _).alloc (by simp; omega) _
  have x0 : Blk (((w.alloc (.cells #[.slice A2 L2.length c2, .int .i64 V.last, .int .i64 V.room, .int .i64 V.left] 38)).alloc (.cells #[.int .i64 7, .int .i64 file, .int .i64 n, .slice xA xl.length xc, .slice kA K.length kc] 35)).alloc (.cells #[.slice none 0 0, .int .i64 0, .int .i64 0, .int .i64 0] 38)) w.heap.size 38 #[.slice A2 L2.length c2, .int .i64 V.last, .int .i64 V.room, .int .i64 V.left] := (Blk.new w 38 #[.slice A2 L2.length c2, .int .i64 V.last, .int .i64 V.room, .int .i64 V.left]).below ((((Below.refl _ _).alloc (Nat.le_refl _) _)).alloc (by simp) _)
  have x1 : Blk (((w.alloc (.cells #[.slice A2 L2.length c2, .int .i64 V.last, .int .i64 V.room, .int .i64 V.left] 38)).alloc (.cells #[.int .i64 7, .int .i64 file, .int .i64 n, .slice xA xl.length xc, .slice kA K.length kc] 35)).alloc (.cells #[.slice none 0 0, .int .i64 0, .int .i64 0, .int .i64 0] 38)) (w.heap.size + 1) 35 #[.int .i64 7, .int .i64 file, .int .i64 n, .slice xA xl.length xc, .slice kA K.length kc] := by
    have := (Blk.new (w.alloc (.cells #[.slice A2 L2.length c2, .int .i64 V.last, .int .i64 V.room, .int .i64 V.left] 38)) 35 #[.int .i64 7, .int .i64 file, .int .i64 n, .slice xA xl.length xc, .slice kA K.length kc]).below ((Below.refl _ _).alloc (Nat.le_refl _) (.cells #[.slice none 0 0, .int .i64 0, .int .i64 0, .int .i64 0] 38))
    rwa [show (w.alloc (.cells #[.slice A2 L2.length c2, .int .i64 V.last, .int .i64 V.room, .int .i64 V.left] 38)).heap.size = w.heap.size + 1 by simp] at this
  have x2 : Blk (((w.alloc (.cells #[.slice A2 L2.length c2, .int .i64 V.last, .int .i64 V.room, .int .i64 V.left] 38)).alloc (.cells #[.int .i64 7, .int .i64 file, .int .i64 n, .slice xA xl.length xc, .slice kA K.length kc] 35)).alloc (.cells #[.slice none 0 0, .int .i64 0, .int .i64 0, .int .i64 0] 38)) (w.heap.size + 1 + 1) 38 #[.slice none 0 0, .int .i64 0, .int .i64 0, .int .i64 0] := by
    have := Blk.new ((w.alloc (.cells #[.slice A2 L2.length c2, .int .i64 V.last, .int .i64 V.room, .int .i64 V.left] 38)).alloc (.cells #[.int .i64 7, .int .i64 file, .int .i64 n, .slice xA xl.length xc, .slice kA K.length kc] 35)) 38 #[.slice none 0 0, .int .i64 0, .int .i64 0, .int .i64 0]
    rwa [show ((w.alloc (.cells #[.slice A2 L2.length c2, .int .i64 V.last, .int .i64 V.room, .int .i64 V.left] 38)).alloc (.cells #[.int .i64 7, .int .i64 file, .int .i64 n, .slice xA xl.length xc, .slice kA K.length kc] 35)).heap.size = w.heap.size + 1 + 1 by simp] at this
  have tl := hd.blk.lt
  have ml := hd.map.lt
  have ST := Lib.hid (DoSt.below (w := w) (W := w) ⟨⟨L, hd⟩, hv, Fr.refl _ _⟩ hw3)
  have HX := Lib.hid (ho.below hw3)
  have HO := Lib.hid hok
  have HOV := Lib.hid hokV
  clear hd hv ho hok hokV
  go_enter Try.func12, Try.ntmps12
  go_upto_region 1 with (fail)
  generalize (((w.alloc (.cells #[.slice A2 L2.length c2, .int .i64 V.last, .int .i64 V.room, .int .i64 V.left] 38)).alloc (.cells #[.int .i64 7, .int .i64 file, .int .i64 n, .slice xA xl.length xc, .slice kA K.length kc] 35)).alloc (.cells #[.slice none 0 0, .int .i64 0, .int .i64 0, .int .i64 0] 38)) = w3 at *
  have o0 := x1.cell 0
  have o1 := x1.cell 1
  have o2 := x1.cell 2
  have o3 := x1.cell 3
  have o4 := x1.cell 4
  simp only [List.getElem?_toArray, List.getElem?_cons_zero, List.getElem?_cons_succ] at o0 o1 o2 o3 o4
  clear hw3
  obtain ⟨L6, hd6⟩ := ST.out.disk
  have HC := crash_any tb mb L6 D k kA kc K (fun b => ¬ (b = tb ∨ b = mb)) w3 hd6 HO.out (by omega) ⟨HX.out.kr, by omega⟩ (fun _ _ hz => hz)
  rw [← HD'.out] at HC
  replace HC := Lib.hid HC
  clear hd6
  go_wp2_with fail
  refine HC.out.mono ?_
  rintro e w4 ⟨rfl, h4⟩
  have ST4 := ST.out.to h4
  have y0 := x0.fr h4.fr (by omega)
  have y1 := x1.fr h4.fr (by omega)
  have y2 := x2.fr h4.fr (by omega)
  have HX4 := HX.out.fr h4.fr (fun _ _ hz e => hz e)
  have HC2 := refCrash_any _ V k kA kc K (fun b => ¬ (b = tb ∨ b = mb)) w4 ST4.ref HOV.out ⟨HX4.kr, by omega⟩
  rw [← HV'.out] at HC2
  replace HC2 := Lib.hid HC2
  have HS4 := Lib.hid ST4
  clear HC ST ST4 x0 x1 x2 o0 o1 o2 o3 o4 HX HX4 h4
  have p0 := y0.cell 0
  have p1 := y0.cell 1
  have p2 := y0.cell 2
  have p3 := y0.cell 3
  simp only [List.getElem?_toArray, List.getElem?_cons_zero, List.getElem?_cons_succ] at p0 p1 p2 p3
  have o0 := y1.cell 0
  have o1 := y1.cell 1
  have o2 := y1.cell 2
  have o3 := y1.cell 3
  have o4 := y1.cell 4
  simp only [List.getElem?_toArray, List.getElem?_cons_zero, List.getElem?_cons_succ] at o0 o1 o2 o3 o4
  go_wp2_with fail
  refine HC2.out.mono ?_
  rintro e w5 ⟨v5, rfl, hr5, hb5⟩
  obtain ⟨A5, c5, L5, rfl, hF5, hc5, hp5⟩ := hr5.at_
  have ST := Lib.hid ((HS4.out.below hb5).ref' hr5)
  replace y2 := y2.below hb5
  have fr := fun o => y2.frozen o
  clear HC2 HS4 y0 y1 p0 p1 p2 p3 o0 o1 o2 o3 o4 hF5 hc5 hp5 hr5 hb5
  have r0 := y2.cell 0
  have r1 := y2.cell 1
  have r2 := y2.cell 2
  have r3 := y2.cell 3
  simp only [List.getElem?_toArray, List.getElem?_cons_zero, List.getElem?_cons_succ] at r0 r1 r2 r3
  go_wp2_with fail
  have kR : Fr (fun x => x = w.heap.size + 1 + 1) w5 ((((w5.setCell ⟨w.heap.size + 1 + 1, 0, none⟩ (.slice A5 L5.length c5)).setCell ⟨w.heap.size + 1 + 1, 1, none⟩ (.int .i64 V'.last)).setCell ⟨w.heap.size + 1 + 1, 2, none⟩ (.int .i64 V'.room)).setCell ⟨w.heap.size + 1 + 1, 3, none⟩ (.int .i64 V'.left)) := (((((Fr.refl (fun x => x = w.heap.size + 1 + 1) w5).setAt (w.heap.size + 1 + 1) _ rfl _).setAt (w.heap.size + 1 + 1) _ rfl _).setAt (w.heap.size + 1 + 1) _ rfl _).setAt (w.heap.size + 1 + 1) _ rfl _)
  have yR := ((((y2.set_ 0 (.slice A5 L5.length c5)).set_ 1 (.int .i64 V'.last)).set_ 2 (.int .i64 V'.room)).set_ 3 (.int .i64 V'.left))
  simp only [List.setIfInBounds_toArray, List.set_cons_zero, List.set_cons_succ] at yR
  have STR := ST.out.put y2 kR (by omega) tl ml
  generalize ((((w5.setCell ⟨w.heap.size + 1 + 1, 0, none⟩ (.slice A5 L5.length c5)).setCell ⟨w.heap.size + 1 + 1, 1, none⟩ (.int .i64 V'.last)).setCell ⟨w.heap.size + 1 + 1, 2, none⟩ (.int .i64 V'.room)).setCell ⟨w.heap.size + 1 + 1, 3, none⟩ (.int .i64 V'.left)) = wR at *
  have s0 := yR.cell 0
  have s1 := yR.cell 1
  have s2 := yR.cell 2
  have s3 := yR.cell 3
  simp only [List.getElem?_toArray, List.getElem?_cons_zero, List.getElem?_cons_succ] at s0 s1 s2 s3
  refine bodyPost_ret (v := .tuple #[.agg #[.slice A5 L5.length c5, .int .i64 V'.last, .int .i64 V'.room, .int .i64 V'.left], .bool true]) (by simp [results, Try.results12, go_sem, s0, s1, s2, s3]) rfl ?_
  exact ⟨_, rfl, STR.ref, STR.disk, STR.fr⟩


set_option maxRecDepth 100000 in
set_option maxHeartbeats 4000000 in
theorem do_read (tb mb : Nat) (L : List (Int × FV)) (D V : DP) (k : Nat) (A2 : Option Addr) (c2 : Nat) (L2 : List (Int × FV)) (file n : Int) (xA : Option Addr) (xc : Nat) (xl : List UInt8) (kA : Option Addr) (kc : Nat) (K : List (Int × Int)) (w : World) (hd : DiskAt w tb mb L D) (hok : DOk D k) (_hk : k < 1000000) (hv : RefAt w (refV A2 L2.length c2 V.last V.room V.left) V) (hokV : DOk V k) (ho : OpD.ok w (fun b => ¬ (b = tb ∨ b = mb)) ⟨5, file, n, ⟨xA, xc, xl⟩, kA, kc, K⟩) (_hx : xl.length ≤ 20000) (_hK : K.length ≤ 20000) :
    Calls Try.prog 12 #[.pointer (some ⟨tb, 0, none⟩), refV A2 L2.length c2 V.last V.room V.left, .agg #[.int .i64 5, .int .i64 file, .int .i64 n, .slice xA xl.length xc, .slice kA K.length kc]] w fun e w' => ∃ v', e = .returned (.tuple #[v', .bool ((readS D file).2 == (readS V file).2 && (readS D file).1 == (readS V file).1)]) ∧ RefAt w' v' (V) ∧ (∃ L', DiskAt w' tb mb L' (D)) ∧ Fr (fun g => g = tb ∨ g = mb) w w' := by
  obtain ⟨e2, he2⟩ : ∃ e2, e2 = (readS V file).2 := ⟨_, rfl⟩
  obtain ⟨e1, he1⟩ : ∃ e1, e1 = (readS D file).2 := ⟨_, rfl⟩
  obtain ⟨l2, hl2⟩ : ∃ l2, l2 = (readS V file).1 := ⟨_, rfl⟩
  obtain ⟨l1, hl1⟩ : ∃ l1, l1 = (readS D file).1 := ⟨_, rfl⟩
  rw [← he2, ← he1, ← hl2, ← hl1]
  have He2 := Lib.hid he2
  have He1 := Lib.hid he1
  have Hl2 := Lib.hid hl2
  have Hl1 := Lib.hid hl1
  clear he2 he1 hl2 hl1
  have hw3 : Below w.heap.size w (((w.alloc (.cells #[.slice A2 L2.length c2, .int .i64 V.last, .int .i64 V.room, .int .i64 V.left] 38)).alloc (.cells #[.int .i64 5, .int .i64 file, .int .i64 n, .slice xA xl.length xc, .slice kA K.length kc] 35)).alloc (.cells #[.slice none 0 0, .int .i64 0, .int .i64 0, .int .i64 0] 38)) := (((Below.refl _ _).alloc (Nat.le_refl _) _).alloc (by simp) _).alloc (by simp; omega) _
  have x0 : Blk (((w.alloc (.cells #[.slice A2 L2.length c2, .int .i64 V.last, .int .i64 V.room, .int .i64 V.left] 38)).alloc (.cells #[.int .i64 5, .int .i64 file, .int .i64 n, .slice xA xl.length xc, .slice kA K.length kc] 35)).alloc (.cells #[.slice none 0 0, .int .i64 0, .int .i64 0, .int .i64 0] 38)) w.heap.size 38 #[.slice A2 L2.length c2, .int .i64 V.last, .int .i64 V.room, .int .i64 V.left] := (Blk.new w 38 #[.slice A2 L2.length c2, .int .i64 V.last, .int .i64 V.room, .int .i64 V.left]).below ((((Below.refl _ _).alloc (Nat.le_refl _) _)).alloc (by simp) _)
  have x1 : Blk (((w.alloc (.cells #[.slice A2 L2.length c2, .int .i64 V.last, .int .i64 V.room, .int .i64 V.left] 38)).alloc (.cells #[.int .i64 5, .int .i64 file, .int .i64 n, .slice xA xl.length xc, .slice kA K.length kc] 35)).alloc (.cells #[.slice none 0 0, .int .i64 0, .int .i64 0, .int .i64 0] 38)) (w.heap.size + 1) 35 #[.int .i64 5, .int .i64 file, .int .i64 n, .slice xA xl.length xc, .slice kA K.length kc] := by
    have := (Blk.new (w.alloc (.cells #[.slice A2 L2.length c2, .int .i64 V.last, .int .i64 V.room, .int .i64 V.left] 38)) 35 #[.int .i64 5, .int .i64 file, .int .i64 n, .slice xA xl.length xc, .slice kA K.length kc]).below ((Below.refl _ _).alloc (Nat.le_refl _) (.cells #[.slice none 0 0, .int .i64 0, .int .i64 0, .int .i64 0] 38))
    rwa [show (w.alloc (.cells #[.slice A2 L2.length c2, .int .i64 V.last, .int .i64 V.room, .int .i64 V.left] 38)).heap.size = w.heap.size + 1 by simp] at this
  have x2 : Blk (((w.alloc (.cells #[.slice A2 L2.length c2, .int .i64 V.last, .int .i64 V.room, .int .i64 V.left] 38)).alloc (.cells #[.int .i64 5, .int .i64 file, .int .i64 n, .slice xA xl.length xc, .slice kA K.length kc] 35)).alloc (.cells #[.slice none 0 0, .int .i64 0, .int .i64 0, .int .i64 0] 38)) (w.heap.size + 1 + 1) 38 #[.slice none 0 0, .int .i64 0, .int .i64 0, .int .i64 0] := by
    have := Blk.new ((w.alloc (.cells #[.slice A2 L2.length c2, .int .i64 V.last, .int .i64 V.room, .int .i64 V.left] 38)).alloc (.cells #[.int .i64 5, .int .i64 file, .int .i64 n, .slice xA xl.length xc, .slice kA K.length kc] 35)) 38 #[.slice none 0 0, .int .i64 0, .int .i64 0, .int .i64 0]
    rwa [show ((w.alloc (.cells #[.slice A2 L2.length c2, .int .i64 V.last, .int .i64 V.room, .int .i64 V.left] 38)).alloc (.cells #[.int .i64 5, .int .i64 file, .int .i64 n, .slice xA xl.length xc, .slice kA K.length kc] 35)).heap.size = w.heap.size + 1 + 1 by simp] at this
  have tl := hd.blk.lt
  have ml := hd.map.lt
  have ST := Lib.hid (DoSt.below (w := w) (W := w) ⟨⟨L, hd⟩, hv, Fr.refl _ _⟩ hw3)
  have HX := Lib.hid (ho.below hw3)
  have HO := Lib.hid hok
  have HOV := Lib.hid hokV
  clear hd hv ho hok hokV
  go_enter Try.func12, Try.ntmps12
  go_upto_region 1 with (fail)
  generalize (((w.alloc (.cells #[.slice A2 L2.length c2, .int .i64 V.last, .int .i64 V.room, .int .i64 V.left] 38)).alloc (.cells #[.int .i64 5, .int .i64 file, .int .i64 n, .slice xA xl.length xc, .slice kA K.length kc] 35)).alloc (.cells #[.slice none 0 0, .int .i64 0, .int .i64 0, .int .i64 0] 38)) = w3 at *
  have o0 := x1.cell 0
  have o1 := x1.cell 1
  have o2 := x1.cell 2
  have o3 := x1.cell 3
  have o4 := x1.cell 4
  simp only [List.getElem?_toArray, List.getElem?_cons_zero, List.getElem?_cons_succ] at o0 o1 o2 o3 o4
  clear hw3
  obtain ⟨L6, hd6⟩ := ST.out.disk
  have HC := read_any tb mb L6 D k file w3 hd6 HO.out (i64_wf HX.out.f)
  rw [← He1.out, ← Hl1.out] at HC
  replace HC := Lib.hid HC
  clear hd6
  go_wp2_with fail
  refine HC.out.mono ?_
  rintro e w4 ⟨A3, c3, m1, rfl, hm1, ho4, hb4⟩
  have ST4 := ST.out.below hb4
  have y0 := x0.below hb4
  have y1 := x1.below hb4
  have y2 := x2.below hb4
  have HC2 := refRead_any _ V k file w4 ST4.ref HOV.out
  rw [← He2.out, ← Hl2.out] at HC2
  replace HC2 := Lib.hid HC2
  have HS4 := Lib.hid ST4
  have HM1 := Lib.hid hm1
  have HB4 := Lib.hid ho4.rd
  clear HC ST ST4 x0 x1 x2 o0 o1 o2 o3 o4 HX hm1 ho4 hb4
  have p0 := y0.cell 0
  have p1 := y0.cell 1
  have p2 := y0.cell 2
  have p3 := y0.cell 3
  simp only [List.getElem?_toArray, List.getElem?_cons_zero, List.getElem?_cons_succ] at p0 p1 p2 p3
  have o0 := y1.cell 0
  have o1 := y1.cell 1
  have o2 := y1.cell 2
  have o3 := y1.cell 3
  have o4 := y1.cell 4
  simp only [List.getElem?_toArray, List.getElem?_cons_zero, List.getElem?_cons_succ] at o0 o1 o2 o3 o4
  go_wp2_with fail
  refine HC2.out.mono ?_
  rintro e w5 ⟨A4, c4, m2, rfl, hm2, ho5, hb5⟩
  have HS5 := Lib.hid (HS4.out.below hb5)
  replace y0 := y0.below hb5
  replace y2 := y2.below hb5
  have HB1 := HB4.out.below hb5
  have HSM := Lib.hid (fun (W : World) (hW : Below w5.heap.size w5 W) => (refSame_any A3 A4 c3 c4 m1 m2 _ _ W (HB1.below hW) (ho5.below hW)).mono (R' := fun e w' => e = .returned (.bool (l1 == l2)) ∧ Below W.heap.size W w') (by rintro e w' ⟨rfl, rfl⟩; exact ⟨by rw [show m1 = l1 from HM1.out, show m2 = l2 from hm2.out], Below.refl _ _⟩))
  clear HC2 HS4 y1 p0 p1 p2 p3 o0 o1 o2 o3 o4 HB4 HB1 hb5 hm2 ho5 HM1
  by_cases hn : e1 = e2
  · have hnb : (e1 == e2) = true := by simpa using hn
    have HNB := Lib.hid hnb
    clear hn
    go_wp2_with fail
    refine wp_region_line (.tell 0 (.tell 1 (.tell 2 (.tell 3 (.tell 4 (.tell 5 (.tell 6 (.one 7 (.tell 8 (.one 9 .done)))))))))) (fun W => Fr (fun x => x = w.heap.size + 1 + 1) w5 W) (by kernel_rfl) (by kernel_rfl) ?_
    refine pl_val (by (simp only [List.getElem?_toArray, List.getElem?_cons_zero]; rfl)) (by kernel_rfl) ⟨_, (by (intro w' hC; have q0 := (y0.fr hC (by omega)).cell 0; have q1 := (y0.fr hC (by omega)).cell 1; have q2 := (y0.fr hC (by omega)).cell 2; have q3 := (y0.fr hC (by omega)).cell 3; simp only [List.getElem?_toArray, List.getElem?_cons_zero, List.getElem?_cons_succ] at q0 q1 q2 q3; clear hC; (try go_simp); (try with_reducible rfl); done)), _, (by (simp only [Act.put, List.setIfInBounds_toArray, List.set_cons_zero, List.set_cons_succ]; rfl)), ?_⟩
    refine pl_val (by (simp only [List.getElem?_toArray, List.getElem?_cons_succ, List.getElem?_cons_zero]; rfl)) (by kernel_rfl) ⟨_, (by (intro w' hC; clear hC; (try go_simp); (try with_reducible rfl); done)), _, (by (simp only [Act.put, List.setIfInBounds_toArray, List.set_cons_zero, List.set_cons_succ]; rfl)), ?_⟩
    refine pl_val (by (simp only [List.getElem?_toArray, List.getElem?_cons_succ, List.getElem?_cons_zero]; rfl)) (by kernel_rfl) ⟨_, (by (intro w' hC; clear hC; (try go_simp); (try with_reducible rfl); done)), _, (by (simp only [Act.put, List.setIfInBounds_toArray, List.set_cons_zero, List.set_cons_succ]; rfl)), ?_⟩
    refine pl_val (by (simp only [List.getElem?_toArray, List.getElem?_cons_succ, List.getElem?_cons_zero]; rfl)) (by kernel_rfl) ⟨_, (by (intro w' hC; clear hC; (try go_simp); (try with_reducible rfl); done)), _, (by (simp only [Act.put, List.setIfInBounds_toArray, List.set_cons_zero, List.set_cons_succ]; rfl)), ?_⟩
    refine pl_val (by (simp only [List.getElem?_toArray, List.getElem?_cons_succ, List.getElem?_cons_zero]; rfl)) (by kernel_rfl) ⟨_, (by (intro w' hC; clear hC; (try go_simp); (try with_reducible rfl); done)), _, (by (simp only [Act.put, List.setIfInBounds_toArray, List.set_cons_zero, List.set_cons_succ]; rfl)), ?_⟩
    refine pl_val (by (simp only [List.getElem?_toArray, List.getElem?_cons_succ, List.getElem?_cons_zero]; rfl)) (by kernel_rfl) ⟨_, (by (intro w' hC; clear hC; (try go_simp); (try with_reducible rfl); done)), _, (by (simp only [Act.put, List.setIfInBounds_toArray, List.set_cons_zero, List.set_cons_succ]; rfl)), ?_⟩
    refine pl_val (by (simp only [List.getElem?_toArray, List.getElem?_cons_succ, List.getElem?_cons_zero]; rfl)) (by kernel_rfl) ⟨_, (by (intro w' hC; clear hC; (try go_simp); (try with_reducible rfl); done)), _, (by (simp only [Act.put, List.setIfInBounds_toArray, List.set_cons_zero, List.set_cons_succ]; rfl)), ?_⟩
    have hC0 : Fr (fun x => x = w.heap.size + 1 + 1) w5 w5.drew := (Fr.refl _ w5).drew
    refine pl_one (by (simp only [List.getElem?_toArray, List.getElem?_cons_succ, List.getElem?_cons_zero]; rfl)) hC0 ?_
    refine al_call (by kernel_rfl) (by go_simp; done) (HSM.out w5.drew (Below.refl _ _).drew) ?_
    rintro e w6 ⟨rfl, hb6⟩
    replace hb6 : Below w5.heap.size w5 w6 := (Below.refl _ _).drew.trans (hb6.mono (Nat.le_refl _))
    refine ⟨_, rfl, _, (by (simp only [Act.put, List.setIfInBounds_toArray, List.set_cons_zero, List.set_cons_succ]; rfl)), ?_⟩
    refine pl_val (by (simp only [List.getElem?_toArray, List.getElem?_cons_succ, List.getElem?_cons_zero]; rfl)) (by kernel_rfl) ⟨_, (by (intro w' hC; clear hC; (try go_simp); (try with_reducible rfl); done)), _, (by (simp only [Act.put, List.setIfInBounds_toArray, List.set_cons_zero, List.set_cons_succ]; rfl)), ?_⟩
    have h6S : Fr (fun x => x = w.heap.size + 1 + 1) w5 w6 := Fr.of_below hb6 _
    have ST := Lib.hid (HS5.out.below hb6)
    replace y2 := y2.below hb6
    have fr := fun o => y2.frozen o
    have r0 := y2.cell 0
    have r1 := y2.cell 1
    have r2 := y2.cell 2
    have r3 := y2.cell 3
    simp only [List.getElem?_toArray, List.getElem?_cons_zero, List.getElem?_cons_succ] at r0 r1 r2 r3
    refine pl_one (by (simp only [List.getElem?_toArray, List.getElem?_cons_succ, List.getElem?_cons_zero]; rfl)) h6S ?_
    refine al_skip (by kernel_rfl) ⟨_, (by (go_simp; first | done | rfl)), _, (by (simp only [Act.put]; rfl)), ?_⟩
    refine pl_end ((((h6S.setAt (w.heap.size + 1 + 1) 0 rfl _).setAt (w.heap.size + 1 + 1) 1 rfl _).setAt (w.heap.size + 1 + 1) 2 rfl _).setAt (w.heap.size + 1 + 1) 3 rfl _) ?_
    simp only [Plan.count, Nat.reduceAdd, List.drop_succ_cons, List.drop_zero]
    clear hC0 h6S HSM y0 hb6
    go_wp2_with fail
    have kR : Fr (fun x => x = w.heap.size + 1 + 1) w6 ((((w6.setCell ⟨w.heap.size + 1 + 1, 0, none⟩ (.slice A2 L2.length c2)).setCell ⟨w.heap.size + 1 + 1, 1, none⟩ (.int .i64 V.last)).setCell ⟨w.heap.size + 1 + 1, 2, none⟩ (.int .i64 V.room)).setCell ⟨w.heap.size + 1 + 1, 3, none⟩ (.int .i64 V.left)) := (((((Fr.refl (fun x => x = w.heap.size + 1 + 1) w6).setAt (w.heap.size + 1 + 1) _ rfl _).setAt (w.heap.size + 1 + 1) _ rfl _).setAt (w.heap.size + 1 + 1) _ rfl _).setAt (w.heap.size + 1 + 1) _ rfl _)
    have yR := ((((y2.set_ 0 (.slice A2 L2.length c2)).set_ 1 (.int .i64 V.last)).set_ 2 (.int .i64 V.room)).set_ 3 (.int .i64 V.left))
    simp only [List.setIfInBounds_toArray, List.set_cons_zero, List.set_cons_succ] at yR
    have STR := ST.out.put y2 kR (by omega) tl ml
    generalize ((((w6.setCell ⟨w.heap.size + 1 + 1, 0, none⟩ (.slice A2 L2.length c2)).setCell ⟨w.heap.size + 1 + 1, 1, none⟩ (.int .i64 V.last)).setCell ⟨w.heap.size + 1 + 1, 2, none⟩ (.int .i64 V.room)).setCell ⟨w.heap.size + 1 + 1, 3, none⟩ (.int .i64 V.left)) = wR at *
    have s0 := yR.cell 0
    have s1 := yR.cell 1
    have s2 := yR.cell 2
    have s3 := yR.cell 3
    simp only [List.getElem?_toArray, List.getElem?_cons_zero, List.getElem?_cons_succ] at s0 s1 s2 s3
    refine bodyPost_ret (v := .tuple #[.agg #[.slice A2 L2.length c2, .int .i64 V.last, .int .i64 V.room, .int .i64 V.left], .bool (l1 == l2)]) (by simp [results, Try.results12, go_sem, s0, s1, s2, s3]) rfl ?_
    exact ⟨_, (by rw [HNB.out]; rfl), STR.ref, STR.disk, STR.fr⟩
  · have hnb : (e1 == e2) = false := by simpa using hn
    have HNB := Lib.hid hnb
    clear hn
    go_wp2_with fail
    refine wp_region_line (.tell 0 (.tell 1 (.tell 2 (.tell 3 (.tell 4 (.tell 5 (.tell 6 (.one 7 (.tell 8 (.one 9 .done)))))))))) (fun W => Fr (fun x => x = w.heap.size + 1 + 1) w5 W) (by kernel_rfl) (by kernel_rfl) ?_
    refine pl_val (by (simp only [List.getElem?_toArray, List.getElem?_cons_zero]; rfl)) (by kernel_rfl) ⟨_, (by (intro w' hC; have q0 := (y0.fr hC (by omega)).cell 0; have q1 := (y0.fr hC (by omega)).cell 1; have q2 := (y0.fr hC (by omega)).cell 2; have q3 := (y0.fr hC (by omega)).cell 3; simp only [List.getElem?_toArray, List.getElem?_cons_zero, List.getElem?_cons_succ] at q0 q1 q2 q3; clear hC; (try go_simp); (try with_reducible rfl); done)), _, (by (simp only [Act.put, List.setIfInBounds_toArray, List.set_cons_zero, List.set_cons_succ]; rfl)), ?_⟩
    refine pl_val (by (simp only [List.getElem?_toArray, List.getElem?_cons_succ, List.getElem?_cons_zero]; rfl)) (by kernel_rfl) ⟨_, (by (intro w' hC; clear hC; (try go_simp); (try with_reducible rfl); done)), _, (by (simp only [Act.put, List.setIfInBounds_toArray, List.set_cons_zero, List.set_cons_succ]; rfl)), ?_⟩
    refine pl_val (by (simp only [List.getElem?_toArray, List.getElem?_cons_succ, List.getElem?_cons_zero]; rfl)) (by kernel_rfl) ⟨_, (by (intro w' hC; clear hC; (try go_simp); (try with_reducible rfl); done)), _, (by (simp only [Act.put, List.setIfInBounds_toArray, List.set_cons_zero, List.set_cons_succ]; rfl)), ?_⟩
    refine pl_val (by (simp only [List.getElem?_toArray, List.getElem?_cons_succ, List.getElem?_cons_zero]; rfl)) (by kernel_rfl) ⟨_, (by (intro w' hC; clear hC; (try go_simp); (try with_reducible rfl); done)), _, (by (simp only [Act.put, List.setIfInBounds_toArray, List.set_cons_zero, List.set_cons_succ]; rfl)), ?_⟩
    refine pl_val (by (simp only [List.getElem?_toArray, List.getElem?_cons_succ, List.getElem?_cons_zero]; rfl)) (by kernel_rfl) ⟨_, (by (intro w' hC; clear hC; (try go_simp); (try with_reducible rfl); done)), _, (by (simp only [Act.put, List.setIfInBounds_toArray, List.set_cons_zero, List.set_cons_succ]; rfl)), ?_⟩
    refine pl_idle (by (simp only [List.getElem?_toArray, List.getElem?_cons_succ, List.getElem?_cons_zero]; rfl)) (by rfl) ⟨_, (by (simp only [Act.put, List.setIfInBounds_toArray, List.set_cons_zero, List.set_cons_succ]; rfl)), ?_⟩
    refine pl_idle (by (simp only [List.getElem?_toArray, List.getElem?_cons_succ, List.getElem?_cons_zero]; rfl)) (by rfl) ⟨_, (by (simp only [Act.put, List.setIfInBounds_toArray, List.set_cons_zero, List.set_cons_succ]; rfl)), ?_⟩
    have hC0 : Fr (fun x => x = w.heap.size + 1 + 1) w5 w5.drew := (Fr.refl _ w5).drew
    refine pl_one (by (simp only [List.getElem?_toArray, List.getElem?_cons_succ, List.getElem?_cons_zero]; rfl)) hC0 ?_
    refine al_idle (by rfl) ⟨_, (by (simp only [Act.put, List.setIfInBounds_toArray, List.set_cons_zero, List.set_cons_succ]; rfl)), ?_⟩
    have hb6 : Below w5.heap.size w5 w5.drew := (Below.refl _ _).drew
    generalize w5.drew = w6 at *
    refine pl_val (by (simp only [List.getElem?_toArray, List.getElem?_cons_succ, List.getElem?_cons_zero]; rfl)) (by kernel_rfl) ⟨_, (by (intro w' hC; clear hC; (try go_simp); (try with_reducible rfl); done)), _, (by (simp only [Act.put, List.setIfInBounds_toArray, List.set_cons_zero, List.set_cons_succ]; rfl)), ?_⟩
    have h6S : Fr (fun x => x = w.heap.size + 1 + 1) w5 w6 := Fr.of_below hb6 _
    have ST := Lib.hid (HS5.out.below hb6)
    replace y2 := y2.below hb6
    have fr := fun o => y2.frozen o
    have r0 := y2.cell 0
    have r1 := y2.cell 1
    have r2 := y2.cell 2
    have r3 := y2.cell 3
    simp only [List.getElem?_toArray, List.getElem?_cons_zero, List.getElem?_cons_succ] at r0 r1 r2 r3
    refine pl_one (by (simp only [List.getElem?_toArray, List.getElem?_cons_succ, List.getElem?_cons_zero]; rfl)) h6S ?_
    refine al_skip (by kernel_rfl) ⟨_, (by (go_simp; first | done | rfl)), _, (by (simp only [Act.put]; rfl)), ?_⟩
    refine pl_end ((((h6S.setAt (w.heap.size + 1 + 1) 0 rfl _).setAt (w.heap.size + 1 + 1) 1 rfl _).setAt (w.heap.size + 1 + 1) 2 rfl _).setAt (w.heap.size + 1 + 1) 3 rfl _) ?_
    simp only [Plan.count, Nat.reduceAdd, List.drop_succ_cons, List.drop_zero]
    clear hC0 h6S HSM y0 hb6
    go_wp2_with fail
    have kR : Fr (fun x => x = w.heap.size + 1 + 1) w6 ((((w6.setCell ⟨w.heap.size + 1 + 1, 0, none⟩ (.slice A2 L2.length c2)).setCell ⟨w.heap.size + 1 + 1, 1, none⟩ (.int .i64 V.last)).setCell ⟨w.heap.size + 1 + 1, 2, none⟩ (.int .i64 V.room)).setCell ⟨w.heap.size + 1 + 1, 3, none⟩ (.int .i64 V.left)) := (((((Fr.refl (fun x => x = w.heap.size + 1 + 1) w6).setAt (w.heap.size + 1 + 1) _ rfl _).setAt (w.heap.size + 1 + 1) _ rfl _).setAt (w.heap.size + 1 + 1) _ rfl _).setAt (w.heap.size + 1 + 1) _ rfl _)
    have yR := ((((y2.set_ 0 (.slice A2 L2.length c2)).set_ 1 (.int .i64 V.last)).set_ 2 (.int .i64 V.room)).set_ 3 (.int .i64 V.left))
    simp only [List.setIfInBounds_toArray, List.set_cons_zero, List.set_cons_succ] at yR
    have STR := ST.out.put y2 kR (by omega) tl ml
    generalize ((((w6.setCell ⟨w.heap.size + 1 + 1, 0, none⟩ (.slice A2 L2.length c2)).setCell ⟨w.heap.size + 1 + 1, 1, none⟩ (.int .i64 V.last)).setCell ⟨w.heap.size + 1 + 1, 2, none⟩ (.int .i64 V.room)).setCell ⟨w.heap.size + 1 + 1, 3, none⟩ (.int .i64 V.left)) = wR at *
    have s0 := yR.cell 0
    have s1 := yR.cell 1
    have s2 := yR.cell 2
    have s3 := yR.cell 3
    simp only [List.getElem?_toArray, List.getElem?_cons_zero, List.getElem?_cons_succ] at s0 s1 s2 s3
    refine bodyPost_ret (v := .tuple #[.agg #[.slice A2 L2.length c2, .int .i64 V.last, .int .i64 V.room, .int .i64 V.left], .bool false]) (by simp [results, Try.results12, go_sem, s0, s1, s2, s3]) rfl ?_
    exact ⟨_, (by rw [HNB.out]; rfl), STR.ref, STR.disk, STR.fr⟩

end Go.Proofs.Ytmdbfhfjaapeoaa
