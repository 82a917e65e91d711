/- What a call leaves of a pipe, plainly. -/
import Derived.Test.YticfjnjeoikalaaA06

namespace Go.Proofs.Yticfjnjeoikalaa
open Go.RowKit

def stepP (S : List PP) (cl : Bool) (o : OpP) : List PP × Bool :=
  if o.kind = 1 then (if cl = false ∧ 0 < o.x.l.length then S ++ [(o.x.l, false, false)] else S, cl)
  else if o.kind = 2 then (dropS S o.n.toNat, cl) else if o.kind = 3 then ((dropI S o.n).1, cl) else if o.kind = 4 then ((flipS S o.n o.bit o.mask.toNat).1, cl)
  else if o.kind = 5 then (cutS S o.n, true) else if o.kind = 6 then ([], false) else (S, cl)
theorem dropS_len : ∀ (S : List PP) (n : Nat), (dropS S n).length ≤ S.length
  | [], n => by simp [dropS]
  | (l, b, d) :: xs, n => by
    have ih := dropS_len xs (n - l.length)
    rw [dropS]
    split
    · simp
    · split
      · simp
      · rw [List.length_cons]; omega
theorem cutS_len : ∀ (S : List PP) (n : Int), (cutS S n).length ≤ S.length
  | [], n => by simp [cutS]
  | p :: xs, n => by
    have ih := cutS_len xs (n - p.1.length)
    unfold cutS
    split
    · simp
    · split
      · simp
      · rw [List.length_cons, List.length_cons]; omega
theorem flat_app (S T : List PP) : flatP (S ++ T) = flatP S ++ flatP T := by unfold flatP; rw [List.flatMap_append]
theorem flat_set (S : List PP) (k : Nat) (p : PP) (h : ∀ q, S[k]? = some q → p.1.length = q.1.length) : (flatP (S.set k p)).length = (flatP S).length := by
  induction S generalizing k with
  | nil => simp
  | cons q S ih =>
    cases k with
    | zero =>
      have := h q rfl
      unfold flatP
      simp [this]
    | succ k =>
      have := ih k (fun r hr => h r (by simpa using hr))
      unfold flatP at this ⊢
      rw [List.set_cons_succ, List.flatMap_cons, List.flatMap_cons, List.length_append, List.length_append, this]
theorem flipS_len (S : List PP) (i bit : Int) (mask : Nat) : (flipS S i bit mask).1.length = S.length ∧ (flatP (flipS S i bit mask).1).length = (flatP S).length := by
  unfold flipS
  split
  · exact ⟨rfl, rfl⟩
  · split
    · exact ⟨rfl, rfl⟩
    · rename_i p hp
      split
      · exact ⟨rfl, rfl⟩
      · refine ⟨by rw [List.length_set], flat_set _ _ _ (fun q hq => ?_)⟩
        rw [hp] at hq
        injection hq with hq
        subst hq
        show (flipB p.1 bit.toNat mask).1.length = _
        unfold flipB
        rw [flipI_len]
theorem dropI_len (S : List PP) (i : Int) : (dropI S i).1.length ≤ S.length ∧ (flatP (dropI S i).1).length ≤ (flatP S).length := by
  unfold dropI
  split
  · refine ⟨by simp only [List.length_append, List.length_take, List.length_drop]; omega, ?_⟩
    show (flatP (S.take i.toNat ++ S.drop (i.toNat + 1))).length ≤ _
    have h : flatP S = flatP (S.take i.toNat) ++ flatP (S.drop i.toNat) := by rw [← flat_app, List.take_append_drop]
    rw [flat_app, h, List.length_append, List.length_append]
    have h2 : (flatP (S.drop (i.toNat + 1))).length ≤ (flatP (S.drop i.toNat)).length := by
      rw [show i.toNat + 1 = i.toNat + 1 from rfl, ← List.drop_drop]
      rcases S.drop i.toNat with _ | ⟨q, T⟩
      · simp
      · unfold flatP; simp
    omega
  · exact ⟨Nat.le_refl _, Nat.le_refl _⟩
theorem stepP_len (S : List PP) (cl : Bool) (o : OpP) : (stepP S cl o).1.length ≤ S.length + 1 ∧ (flatP (stepP S cl o).1).length ≤ (flatP S).length + o.x.l.length := by
  unfold stepP
  split
  · show (if _ then _ else _ : List PP).length ≤ _ ∧ (flatP (if _ then _ else _)).length ≤ _
    split
    · refine ⟨by simp, ?_⟩
      rw [flat_app, List.length_append]
      unfold flatP
      simp
    · exact ⟨by omega, by omega⟩
  · split
    · have h1 := dropS_len S o.n.toNat
      have h2 := flat_dropS S o.n.toNat
      refine ⟨by show (dropS S o.n.toNat).length ≤ _; omega, ?_⟩
      show (flatP (dropS S o.n.toNat)).length ≤ _
      rw [h2, List.length_drop]; omega
    · split
      · have := dropI_len S o.n
        exact ⟨by show (dropI S o.n).1.length ≤ _; have := this.1; omega, by show (flatP (dropI S o.n).1).length ≤ _; have := this.2; omega⟩
      · split
        · have := flipS_len S o.n o.bit o.mask.toNat
          exact ⟨by show (flipS S o.n o.bit o.mask.toNat).1.length ≤ _; have := this.1; omega, by show (flatP (flipS S o.n o.bit o.mask.toNat).1).length ≤ _; have := this.2; omega⟩
        · split
          · have h1 := cutS_len S o.n
            have h2 := flat_cutS S o.n
            exact ⟨by show (cutS S o.n).length ≤ _; omega, by show (flatP (cutS S o.n)).length ≤ _; omega⟩
          · split
            · exact ⟨by simp, by simp [flatP]⟩
            · exact ⟨by show S.length ≤ _; omega, by show (flatP S).length ≤ _; omega⟩
theorem do16_any (base pb : Nat) (A : Option Addr) (c : Nat) (ls : List PV) (cl : Bool) (A2 : Option Addr) (c2 : Nat) (ms : List PV) (S : List PP) (o : OpP) (w : World) (hd : PipeAt w base pb (fun _ => False) A c ls cl) (hS : Hid (ls.map PV.s = S)) (hv : RefP w (fun b => b ≠ pb ∧ ablk A ≠ some b) A2 c2 ms) (hV : Hid (ms.map PV.s = S)) (ho : o.ok w (fun b => b < base)) (hlen : S.length ≤ 1000) (hfl : (flatP S).length ≤ 20000) (hbase : base ≤ w.heap.size) (hpbb : base ≤ pb) :
    Calls Try.prog 7 #[.pointer (some ⟨pb, 0, none⟩), .agg #[.slice A2 ms.length c2, .bool cl], .agg #[.int .i64 o.kind, .int .i64 o.n, .int .i64 o.bit, .int .u32 o.mask, .slice o.x.A o.x.l.length o.x.c]] w fun e w' => DoP w base pb A (stepP S cl o).1 (stepP S cl o).2 e w' := by
  obtain ⟨kind, n, bit, mask, xA, xc, xl⟩ := o
  obtain ⟨mk, rfl⟩ : ∃ mk : Nat, mask = (mk : Int) := ⟨mask.toNat, by have := ho.m; dsimp only at this; omega⟩
  have e0 : stepP S cl ⟨kind, n, bit, (mk : Int), ⟨xA, xc, xl⟩⟩ = (if kind = 1 then (if cl = false ∧ 0 < xl.length then S ++ [(xl, false, false)] else S, cl)
    else if kind = 2 then (dropS S n.toNat, cl) else if kind = 3 then ((dropI S n).1, cl) else if kind = 4 then ((flipS S n bit mk).1, cl)
    else if kind = 5 then (cutS S n, true) else if kind = 6 then ([], false) else (S, cl)) := by unfold stepP; simp only [Int.toNat_natCast]
  rw [e0]
  clear e0
  dsimp only
  by_cases h1 : kind = 1
  · subst h1
    simpa only [if_true] using do16_send base pb A c ls cl A2 c2 ms S n bit mk xA xc xl w hd hS hv hV ho hlen hfl hbase hpbb
  by_cases h2 : kind = 2
  · subst h2
    simpa only [if_neg h1, if_true] using do16_take base pb A c ls cl A2 c2 ms S n bit mk xA xc xl w hd hS hv hV ho hlen hfl hbase hpbb
  by_cases h3 : kind = 3
  · subst h3
    simpa only [if_neg h1, if_neg h2, if_true] using do16_drop base pb A c ls cl A2 c2 ms S n bit mk xA xc xl w hd hS hv hV ho hlen hfl hbase hpbb
  by_cases h4 : kind = 4
  · subst h4
    simpa only [if_neg h1, if_neg h2, if_neg h3, if_true] using do16_flip base pb A c ls cl A2 c2 ms S n bit mk xA xc xl w hd hS hv hV ho hlen hfl hbase hpbb
  by_cases h5 : kind = 5
  · subst h5
    simpa only [if_neg h1, if_neg h2, if_neg h3, if_neg h4, if_true] using do16_cut base pb A c ls cl A2 c2 ms S n bit mk xA xc xl w hd hS hv hV ho hlen hfl hbase hpbb
  by_cases h6 : kind = 6
  · subst h6
    simpa only [if_neg h1, if_neg h2, if_neg h3, if_neg h4, if_neg h5, if_true] using do16_open base pb A c ls cl A2 c2 ms S n bit mk xA xc xl w hd hS hv hV ho hlen hfl hbase hpbb
  simpa only [if_neg h1, if_neg h2, if_neg h3, if_neg h4, if_neg h5, if_neg h6] using do16_other base pb A c ls cl A2 c2 ms S kind h1 h2 h3 h4 h5 h6 n bit mk xA xc xl w hd hS hv hV ho hlen hfl hbase hpbb
end Go.Proofs.Yticfjnjeoikalaa

/- tenderlaw16.same. -/
namespace Go.Proofs.Yticfjnjeoikalaa
open Go.RowKit


set_option maxRecDepth 100000 in
set_option maxHeartbeats 4000000 in
theorem same16_any (base pb : Nat) (A : Option Addr) (c : Nat) (ls : List PV) (cl : Bool) (A2 : Option Addr) (c2 : Nat) (ms : List PV) (S : List PP) (Z : Nat → Prop) (w : World) (hd : PipeAt w base pb (fun _ => False) A c ls cl) (hS : Hid (ls.map PV.s = S)) (hv : RefP w Z A2 c2 ms) (hV : Hid (ms.map PV.s = S)) (hlen : S.length ≤ 1000) (hfl : (flatP S).length ≤ 20000) (hbase : base ≤ w.heap.size) :
    Calls Try.prog 8 #[.pointer (some ⟨pb, 0, none⟩), .agg #[.slice A2 ms.length c2, .bool cl]] w fun e w' => e = .returned (.bool true) ∧ Below w.heap.size w w' := by
  have hw1 : Below w.heap.size w (w.alloc (.cells #[.slice A2 ms.length c2, .bool cl] 29)) := (Below.refl _ _).alloc (Nat.le_refl _) _
  have x0 : Blk (w.alloc (.cells #[.slice A2 ms.length c2, .bool cl] 29)) w.heap.size 29 #[.slice A2 ms.length c2, .bool cl] := Blk.new w 29 #[.slice A2 ms.length c2, .bool cl]
  have HD := Lib.hid (hd.below hw1)
  have HV := Lib.hid (hv.below hw1)
  have hsl : ls.length ≤ 1000 := by have := congrArg List.length hS.out; rw [List.length_map] at this; omega
  have hml : ms.length ≤ 1000 := by have := congrArg List.length hV.out; rw [List.length_map] at this; omega
  have hmle : ms.length = ls.length := by have h1 := congrArg List.length hS.out; have h2 := congrArg List.length hV.out; rw [List.length_map] at h1 h2; omega
  have HML := Lib.hid hmle
  clear hd hv hmle
  go_enter Try.func8, Try.ntmps8
  go_upto_region 1 with (fail)
  generalize (w.alloc (.cells #[.slice A2 ms.length c2, .bool cl] 29)) = w1 at *
  have hs1 := hw1.size
  have q0 := x0.cell 0
  have q1 := x0.cell 1
  simp only [List.getElem?_toArray, List.getElem?_cons_zero, List.getElem?_cons_succ] at q0 q1
  go_wp2_with fail
  refine (all16_any A2 c2 ms cl Z w1 HV.out (by omega) (by rw [hV.out]; omega)).mono ?_
  rintro e w2 ⟨A3, c3, l3, rfl, hl3, ho3, hb2⟩
  have hl3S : l3 = flatP S := by rw [hl3.out, hV.out]
  have HL3 := Lib.hid hl3S
  have hl3l : l3.length ≤ 20000 := by rw [hl3S]; omega
  clear hl3 hl3S q0 q1
  have HD2 := Lib.hid (HD.out.below hb2)
  go_wp2_with fail
  refine (pipeClone_any base pb (fun _ => False) A c ls cl w2 HD2.out (by omega)).mono ?_
  rintro e w3 ⟨⟨qb, A4, c4, rfl, hqb, hcl⟩, hb3⟩
  have hw13 := hb2.trans (hb3.mono hb2.size)
  have hb2s := hb2.size
  have h4lt : ∀ k, ablk A4 = some k → w2.heap.size ≤ k := fun k hk => (hcl.row.lt k hk).1
  have HCL := Lib.hid hcl
  have HY3 := Lib.hid ((ho3.rd.mono (Z' := fun b => b < w2.heap.size) (fun b hb _ => hb)).below hb3)
  have hwr : IntKind.i64.wrap ((l3.length : Int) + 1) = (l3.length : Int) + 1 := by rw [IntKind.wrap_i64]; omega
  have HLEN : Hid (∀ W, Below w1.heap.size w1 W → Calls Try.prog 25 #[.pointer (some ⟨pb, 0, none⟩)] W fun e w' => e = .returned (.int .i64 (l3.length : Int)) ∧ Below W.heap.size W w') := Lib.hid (fun W hW => by
    have := pipeLen_any base pb (fun _ => False) A c ls cl W (HD.out.below hW) (by omega) (by rw [hS.out]; omega)
    rw [hS.out, ← HL3.out] at this
    exact this)
  have HCNT : Hid (∀ W, Below w1.heap.size w1 W → Calls Try.prog 12 #[.pointer (some ⟨pb, 0, none⟩)] W fun e w' => e = .returned (.int .i64 (ms.length : Int)) ∧ W = w') := Lib.hid (fun W hW => by
    rw [HML.out]
    exact pipeCount_any base pb (fun _ => False) A c ls cl W (HD.out.below hW))
  have HCLO : Hid (∀ W, Below w1.heap.size w1 W → Calls Try.prog 13 #[.pointer (some ⟨pb, 0, none⟩)] W fun e w' => e = .returned (.bool cl) ∧ W = w') := Lib.hid (fun W hW => pipeClosed_any base pb (fun _ => False) A c ls cl W (HD.out.below hW))
  have HTK : Hid (∀ W, Below w3.heap.size w3 W → Calls Try.prog 11 #[.pointer (some ⟨qb, 0, none⟩), .int .i64 ((l3.length : Int) + 1)] W fun e w' => ∃ (A' : Option Addr) (c' : Nat) (l' : List UInt8), e = .returned (.slice A' l'.length c') ∧ Hid (l' = l3) ∧ OwB w' W.heap.size (.slice A' l'.length c') l' ∧ Fr (fun k => k = qb ∨ ablk A4 = some k) W w') := Lib.hid (fun W hW => by
    have hWs := hW.size
    have hb3s := hb3.size
    refine (pipeTake_any w2.heap.size qb (fun _ => False) A4 c4 ls cl W (HCL.out.below hW) ((l3.length : Int) + 1) (by omega) (by rw [hS.out]; omega) (by omega)).mono ?_
    rintro e w' ⟨A', c', l', rfl, hl', ho', hp'⟩
    refine ⟨A', c', l', rfl, Lib.hid ?_, ho', hp'.fr⟩
    rw [hl'.out, hS.out, ← HL3.out, List.take_of_length_le (by omega)])
  clear ho3 hcl hb3 hb2 HD2 HD HV
  go_wp2_with fail
  refine wp_region_p [(0, true), (2, true), (3, true), (1, false), (4, true), (5, true), (6, true), (8, true), (9, true), (10, true), (7, false), (11, true), (12, true), (13, true), (14, true), (16, true), (17, true), (15, false), (18, true), (19, true), (20, true), (21, true), (22, true), (23, true), (24, true), (26, true), (25, false), (27, false), (28, true), (29, true), (30, true), (32, true), (33, true), (31, false), (34, true), (35, true)] (fun W => Below w1.heap.size w1 W) (by kernel_rfl) (by kernel_rfl) ?_
  simp only [List.map_cons, List.map_nil, List.filterMap_cons, List.filterMap_nil, List.getElem?_cons_zero, List.getElem?_cons_succ, List.length_cons, List.length_nil, Nat.zero_add, Nat.reduceAdd, List.drop_succ_cons, List.drop_zero]
  refine mx_move _ (by kernel_rfl) rfl ⟨_, (by ((try simp [go_sem]); (try rfl); done)), _, (by (simp only [Act.put, List.setIfInBounds_toArray, List.set_cons_zero, List.set_cons_succ]; rfl)), ?_⟩
  refine mx_move _ (by kernel_rfl) rfl ⟨_, (by ((try simp [go_sem]); (try rfl); done)), _, (by (simp only [Act.put, List.setIfInBounds_toArray, List.set_cons_zero, List.set_cons_succ]; rfl)), ?_⟩
  refine mx_val (by kernel_rfl) ⟨_, (by (intro w' hC; clear hC; (try go_simp); (try with_reducible rfl); done)), _, (by (simp only [Act.put, List.setIfInBounds_toArray, List.set_cons_zero, List.set_cons_succ]; rfl)), ?_⟩
  refine mx_call (hw13.drew) (by kernel_rfl) ?_ (HLEN.out _ hw13.drew) ?_
  · (go_simp; done)
  rintro e w4 ⟨rfl, hb4⟩
  have hw34 : Below w3.heap.size w3 w4 := (Below.refl _ _).drew.trans (hb4.mono (Nat.le_refl _))
  have hw14 := hw13.trans (hw34.mono hw13.size)
  clear hb4
  refine ⟨_, rfl, _, (by (simp only [Act.put, List.setIfInBounds_toArray, List.set_cons_zero, List.set_cons_succ]; rfl)), ?_⟩
  refine mx_val (by kernel_rfl) ⟨_, (by (intro w' hC; clear hC; (try go_simp); (try with_reducible rfl); done)), _, (by (simp only [Act.put, List.setIfInBounds_toArray, List.set_cons_zero, List.set_cons_succ]; rfl)), ?_⟩
  refine mx_move _ (by kernel_rfl) rfl ⟨_, (by ((try simp [go_sem]); (try rfl); done)), _, (by (simp only [Act.put, List.setIfInBounds_toArray, List.set_cons_zero, List.set_cons_succ]; rfl)), ?_⟩
  refine mx_move _ (by kernel_rfl) rfl ⟨_, (by ((try simp [go_sem]); (try rfl); done)), _, (by (simp only [Act.put, List.setIfInBounds_toArray, List.set_cons_zero, List.set_cons_succ]; rfl)), ?_⟩
  refine mx_val (by kernel_rfl) ⟨_, (by (intro w' hC; clear hC; (try go_simp); (try with_reducible rfl); done)), _, (by (simp only [Act.put, List.setIfInBounds_toArray, List.set_cons_zero, List.set_cons_succ]; rfl)), ?_⟩
  refine mx_val (by kernel_rfl) ⟨_, (by (intro w' hC; (have q0 := (x0.below hC).cell 0; simp only [List.getElem?_toArray, List.getElem?_cons_zero] at q0); clear hC; (try go_simp); (try with_reducible rfl); done)), _, (by (simp only [Act.put, List.setIfInBounds_toArray, List.set_cons_zero, List.set_cons_succ]; rfl)), ?_⟩
  refine mx_val (by kernel_rfl) ⟨_, (by (intro w' hC; clear hC; (try go_simp); (try with_reducible rfl); done)), _, (by (simp only [Act.put, List.setIfInBounds_toArray, List.set_cons_zero, List.set_cons_succ]; rfl)), ?_⟩
  refine mx_call (hw14) (by kernel_rfl) ?_ (HCNT.out _ hw14) ?_
  · (go_simp; done)
  rintro e w5 ⟨rfl, rfl⟩
  refine ⟨_, rfl, _, (by (simp only [Act.put, List.setIfInBounds_toArray, List.set_cons_zero, List.set_cons_succ]; rfl)), ?_⟩
  refine mx_val (by kernel_rfl) ⟨_, (by (intro w' hC; clear hC; (try go_simp); (try with_reducible rfl); done)), _, (by (simp only [Act.put, List.setIfInBounds_toArray, List.set_cons_zero, List.set_cons_succ]; rfl)), ?_⟩
  refine mx_val (by kernel_rfl) ⟨_, (by (intro w' hC; clear hC; (try go_simp); (try with_reducible rfl); done)), _, (by (simp only [Act.put, List.setIfInBounds_toArray, List.set_cons_zero, List.set_cons_succ]; rfl)), ?_⟩
  refine mx_move _ (by kernel_rfl) rfl ⟨_, (by ((try simp [go_sem]); (try rfl); done)), _, (by (simp only [Act.put, List.setIfInBounds_toArray, List.set_cons_zero, List.set_cons_succ]; rfl)), ?_⟩
  refine mx_move _ (by kernel_rfl) rfl ⟨_, (by ((try simp [go_sem]); (try rfl); done)), _, (by (simp only [Act.put, List.setIfInBounds_toArray, List.set_cons_zero, List.set_cons_succ]; rfl)), ?_⟩
  refine mx_val (by kernel_rfl) ⟨_, (by (intro w' hC; clear hC; (try go_simp); (try with_reducible rfl); done)), _, (by (simp only [Act.put, List.setIfInBounds_toArray, List.set_cons_zero, List.set_cons_succ]; rfl)), ?_⟩
  refine mx_val (by kernel_rfl) ⟨_, (by (intro w' hC; (have q0 := (x0.below hC).cell 1; simp only [List.getElem?_toArray, List.getElem?_cons_zero, List.getElem?_cons_succ] at q0); clear hC; (try go_simp); (try with_reducible rfl); done)), _, (by (simp only [Act.put, List.setIfInBounds_toArray, List.set_cons_zero, List.set_cons_succ]; rfl)), ?_⟩
  refine mx_call (hw14) (by kernel_rfl) ?_ (HCLO.out _ hw14) ?_
  · (go_simp; done)
  rintro e w6 ⟨rfl, rfl⟩
  refine ⟨_, rfl, _, (by (simp only [Act.put, List.setIfInBounds_toArray, List.set_cons_zero, List.set_cons_succ]; rfl)), ?_⟩
  refine mx_val (by kernel_rfl) ⟨_, (by (intro w' hC; clear hC; (try go_simp); (try with_reducible rfl); done)), _, (by (simp only [Act.put, List.setIfInBounds_toArray, List.set_cons_zero, List.set_cons_succ]; rfl)), ?_⟩
  refine mx_val (by kernel_rfl) ⟨_, (by (intro w' hC; clear hC; (try go_simp); (try with_reducible rfl); done)), _, (by (simp only [Act.put, List.setIfInBounds_toArray, List.set_cons_zero, List.set_cons_succ]; rfl)), ?_⟩
  refine mx_move _ (by kernel_rfl) rfl ⟨_, (by ((try simp [go_sem]); (try rfl); done)), _, (by (simp only [Act.put, List.setIfInBounds_toArray, List.set_cons_zero, List.set_cons_succ]; rfl)), ?_⟩
  refine mx_move _ (by kernel_rfl) rfl ⟨_, (by ((try simp [go_sem]); (try rfl); done)), _, (by (simp only [Act.put, List.setIfInBounds_toArray, List.set_cons_zero, List.set_cons_succ]; rfl)), ?_⟩
  refine mx_move _ (by kernel_rfl) rfl ⟨_, (by ((try simp [go_sem]); (try rfl); done)), _, (by (simp only [Act.put, List.setIfInBounds_toArray, List.set_cons_zero, List.set_cons_succ]; rfl)), ?_⟩
  refine mx_val (by kernel_rfl) ⟨_, (by (intro w' hC; clear hC; (try go_simp); (try with_reducible rfl); done)), _, (by (simp only [Act.put, List.setIfInBounds_toArray, List.set_cons_zero, List.set_cons_succ]; rfl)), ?_⟩
  refine mx_val (by kernel_rfl) ⟨_, (by (intro w' hC; clear hC; (try go_simp); (try with_reducible rfl); done)), _, (by (simp only [Act.put, List.setIfInBounds_toArray, List.set_cons_zero, List.set_cons_succ]; rfl)), ?_⟩
  refine mx_move _ (by kernel_rfl) rfl ⟨_, (by ((try simp [go_sem]); (try rfl); done)), _, (by (simp only [Act.put, List.setIfInBounds_toArray, List.set_cons_zero, List.set_cons_succ]; rfl)), ?_⟩
  refine mx_call (hw14) (by kernel_rfl) ?_ (HTK.out _ hw34) ?_
  · (go_simp; done)
  rintro e w7 ⟨A7, c7, l7, rfl, hl7, ho7, hf7⟩
  have hb7 : Below w1.heap.size w4 w7 := hf7.below (B := w1.heap.size) hw14.size (fun k hk e => by
    rcases e with e | e
    · omega
    · have := h4lt k e; omega)
  have hw17 := hw14.trans hb7
  have hy7 := ((HY3.out.below hw34).fr hf7 (fun b _ hz e => by
    rcases e with e | e
    · omega
    · have := h4lt b e; omega))
  have hsm := refSame_any A7 A3 c7 c3 l7 l3 _ _ w7 ho7.rd hy7
  rw [hl7.out, show (l3 == l3) = true from by simp] at hsm
  rw [hl7.out]
  have HSM := Lib.hid hsm
  clear hsm hy7 hb7 hf7 ho7
  refine ⟨_, rfl, _, (by (simp only [Act.put, List.setIfInBounds_toArray, List.set_cons_zero, List.set_cons_succ]; rfl)), ?_⟩
  refine mx_call (hw17) (by kernel_rfl) ?_ (HSM.out) ?_
  · (go_simp; done)
  rintro e w8 ⟨rfl, rfl⟩
  refine ⟨_, rfl, _, (by (simp only [Act.put, List.setIfInBounds_toArray, List.set_cons_zero, List.set_cons_succ]; rfl)), ?_⟩
  refine mx_val (by kernel_rfl) ⟨_, (by (intro w' hC; clear hC; (try go_simp); (try with_reducible rfl); done)), _, (by (simp only [Act.put, List.setIfInBounds_toArray, List.set_cons_zero, List.set_cons_succ]; rfl)), ?_⟩
  refine mx_move _ (by kernel_rfl) rfl ⟨_, (by ((try simp [go_sem]); (try rfl); done)), _, (by (simp only [Act.put, List.setIfInBounds_toArray, List.set_cons_zero, List.set_cons_succ]; rfl)), ?_⟩
  refine mx_move _ (by kernel_rfl) rfl ⟨_, (by ((try simp [go_sem]); (try rfl); done)), _, (by (simp only [Act.put, List.setIfInBounds_toArray, List.set_cons_zero, List.set_cons_succ]; rfl)), ?_⟩
  refine mx_move _ (by kernel_rfl) rfl ⟨_, (by ((try simp [go_sem]); (try rfl); done)), _, (by (simp only [Act.put, List.setIfInBounds_toArray, List.set_cons_zero, List.set_cons_succ]; rfl)), ?_⟩
  refine mx_val (by kernel_rfl) ⟨_, (by (intro w' hC; clear hC; (try go_simp); (try with_reducible rfl); done)), _, (by (simp only [Act.put, List.setIfInBounds_toArray, List.set_cons_zero, List.set_cons_succ]; rfl)), ?_⟩
  refine mx_call (hw17) (by kernel_rfl) ?_ (HLEN.out _ hw17) ?_
  · (go_simp; done)
  rintro e w9 ⟨rfl, hb9⟩
  have hw19 := hw17.trans (hb9.mono hw17.size)
  refine ⟨_, rfl, _, (by (simp only [Act.put, List.setIfInBounds_toArray, List.set_cons_zero, List.set_cons_succ]; rfl)), ?_⟩
  refine mx_val (by kernel_rfl) ⟨_, (by (intro w' hC; clear hC; (try go_simp); (try with_reducible rfl); done)), _, (by (simp only [Act.put, List.setIfInBounds_toArray, List.set_cons_zero, List.set_cons_succ]; rfl)), ?_⟩
  refine mx_val (by kernel_rfl) ⟨_, (by (intro w' hC; clear hC; (try go_simp); (try with_reducible rfl); done)), _, (by (simp only [Act.put, List.setIfInBounds_toArray, List.set_cons_zero, List.set_cons_succ]; rfl)), ?_⟩
  refine mx_end hw19 ?_
  go_wp2_with fail
  go_ret
  exact ⟨rfl, hw1.trans (hw19.mono hs1)⟩

end Go.Proofs.Yticfjnjeoikalaa

/- PipePlays is true for every input: whatever is called, one thing after the other, what each call answers, and what is under way, are the document's; a clone goes its own way. No condition beyond the row's own. -/
namespace Go.Proofs.Yticfjnjeoikalaa
open Go.RowKit

theorem lightP_len {l : List OpP} (h : lightP l = true) : l.length ≤ 200 ∧ lensP l ≤ 10000 := by
  unfold lightP at h
  simp only [Bool.and_eq_true, decide_eq_true_eq] at h
  exact h
theorem lensP_mono (l : List OpP) (i : Nat) : lensP (l.take i) ≤ lensP l := by
  have : lensP l = lensP (l.take i) + lensP (l.drop i) := by unfold lensP; rw [← List.sum_append, ← List.map_append, List.take_append_drop]
  omega
/-- what the rounds keep -/
structure PlP (w : World) (l : List OpP) (pb wb i : Nat) (wr : World) : Prop where
  at_ : ∃ (A : Option Addr) (c : Nat) (ls : List PV) (cl : Bool) (A2 : Option Addr) (c2 : Nat) (ms : List PV) (S : List PP), PipeAt wr w.heap.size pb (fun _ => False) A c ls cl ∧ Hid (ls.map PV.s = S) ∧ Blk wr wb 29 #[.slice A2 ms.length c2, .bool cl] ∧ RefP wr (fun b => b ≠ pb ∧ ablk A ≠ some b) A2 c2 ms ∧ Hid (ms.map PV.s = S) ∧ S.length ≤ i ∧ (flatP S).length ≤ lensP (l.take i)
  below : Below w.heap.size w wr

set_option maxRecDepth 100000 in
set_option maxHeartbeats 4000000 in
theorem pipePlays_any (A0 : Option Addr) (c0 : Nat) (l : List OpP) (w : World) (h : OpsP w (fun b => b < w.heap.size) A0 l) :
    Calls Try.prog 3 #[.slice A0 l.length c0] w fun e w' => e = .returned (.bool true) ∧ Below w.heap.size w w' := by
  have HL := Lib.hid (light16_any A0 c0 l _ w h)
  have HOP := Lib.hid h
  clear h
  rcases hli : lightP l with _ | _
  · rw [hli] at HL
    go_enter Try.func3, Try.ntmps3
    go_wp2_with fail
    refine HL.out.mono ?_
    rintro e w1 ⟨rfl, hb1⟩
    go_wp2_with fail
    refine (lives16_any _).mono ?_
    rintro e w9 ⟨rfl, hb9⟩
    go_wp2_with fail
    go_ret
    exact ⟨rfl, hb1.trans (hb9.mono hb1.size)⟩
  · rw [hli] at HL
    obtain ⟨hl200, hsz⟩ := lightP_len hli
    have HSZ := Lib.hid hsz
    clear hsz hli
    go_enter Try.func3, Try.ntmps3
    go_wp2_with fail
    refine HL.out.mono ?_
    rintro e w1 ⟨rfl, hb1⟩
    go_wp2_with fail
    refine (pipeNew_any _).mono ?_
    rintro e w2 ⟨rfl, he2⟩
    have hp2 := PipeAt.new w1 (base := w.heap.size) (X := fun _ => False)
    have hb2 : Below w1.heap.size w1 (w1.alloc (.cells #[.slice none 0 0, .bool false] 43)) := (Below.refl _ _).alloc (Nat.le_refl _) _
    rw [he2] at hp2 hb2
    have hw2 := hb1.trans (hb2.mono hb1.size)
    obtain ⟨pb, hpb⟩ : ∃ pb, pb = w1.heap.size := ⟨_, rfl⟩
    have hpbw : w.heap.size ≤ pb := by rw [hpb]; exact hb1.size
    rw [← hpb] at hp2
    have hba : Below w2.heap.size w2 (w2.alloc (.cells #[.slice none 0 0, .bool false] 29)) := (Below.refl _ _).alloc (Nat.le_refl _) _
    have y3 := Blk.new w2 29 #[.slice none 0 0, .bool false]
    have hw3 := hw2.trans (hba.mono hw2.size)
    have gpb := hp2.blk.lt
    have HP3 := Lib.hid (hp2.below hba)
    obtain ⟨wb, hwb⟩ : ∃ wb, wb = w2.heap.size := ⟨_, rfl⟩
    have hw2s := hw2.size
    have PL0 : Hid (PlP w l pb wb 0 (w2.alloc (.cells #[.slice none 0 0, .bool false] 29))) := Lib.hid ⟨⟨none, 0, [], false, none, 0, [], [], HP3.out, Lib.hid rfl, (by rw [hwb]; exact y3), RefP.nil _, Lib.hid rfl, Nat.le_refl _, by simp [flatP]⟩, hw3⟩
    have HPBE := Lib.hid hpb
    clear HL hb1 hb2 hp2 he2 hpb HP3
    rw [← HPBE.out]
    go_upto_region 4 with (fail)
    rw [← hwb]
    generalize w2.alloc (.cells #[.slice none 0 0, .bool false] 29) = w3 at *
    have gwb1 : pb ≠ wb := by omega
    have gwb3 : w.heap.size ≤ wb := by omega
    clear hba y3 hw3 hw2 hwb gpb hw2s HPBE
    go_wp2_with fail
    go_loopw [17] (fun iv wr => ∃ i : Nat, i ≤ l.length ∧ iv = .int .i64 (i : Int) ∧ PlP w l pb wb i wr) (fun iv _ => l.length - (intOf iv).toNat)
    case atStart => exact ⟨0, Nat.zero_le _, rfl, PL0.out⟩
    case round =>
      obtain ⟨i, hi, rfl, hpl⟩ := hrel
      obtain ⟨A, c, ls, cl, A2, c2, ms, S, hp, hS, hbk, hv, hV, hSl, hSf⟩ := hpl.at_
      have hwr := hpl.below
      clear PL0 hpl
      by_cases hlt : i < l.length
      · obtain ⟨ob, off, hA0, hzb, hbb, e0, e1, e2, e3, e4⟩ := (HOP.out.below hwr).at_ hlt
        have hoo := (HOP.out.below hwr).ok _ (List.getElem_mem hlt)
        have hst := lensP_take l i hlt
        have hmn := lensP_mono l (i + 1)
        have hmn0 := lensP_mono l i
        have hSZ := HSZ.out
        generalize l[i] = o at *
        have HOO := Lib.hid hoo
        have HST : Hid (lensP (l.take (i + 1)) = lensP (l.take i) + o.x.l.length) := Lib.hid hst
        have hfl2 : (flatP S).length ≤ 20000 := by omega
        have hSP := stepP_len S cl o
        have hfl3 : (flatP (stepP S cl o).1).length ≤ lensP (l.take (i + 1)) ∧ (flatP (stepP S cl o).1).length ≤ 20000 := by have := hSP.2; omega
        have hlen3 : (stepP S cl o).1.length ≤ i + 1 := by have := hSP.1; omega
        subst hA0
        have hba : Below wr.heap.size wr (wr.alloc (.cells #[.int .i64 o.kind, .int .i64 o.n, .int .i64 o.bit, .int .u32 o.mask, .slice o.x.A o.x.l.length o.x.c] 33)) := (Below.refl _ _).alloc (Nat.le_refl _) _
        have x1 := Blk.new wr 33 #[.int .i64 o.kind, .int .i64 o.n, .int .i64 o.bit, .int .u32 o.mask, .slice o.x.A o.x.l.length o.x.c]
        have HDO := do16_any w.heap.size pb A c ls cl A2 c2 ms S o _ (hp.below hba) hS (hv.below hba) hV (by
          have h1 := HOO.out
          exact ⟨h1.k, h1.n, h1.b, h1.m, h1.x.below hba, h1.len⟩) (by omega) hfl2 (Nat.le_trans hwr.size hba.size) hpbw
        obtain ⟨T, hT⟩ : ∃ T, T = (stepP S cl o).1 := ⟨_, rfl⟩
        obtain ⟨cl5, hcl5⟩ : ∃ cl5, cl5 = (stepP S cl o).2 := ⟨_, rfl⟩
        rw [← hT] at hfl3 hlen3
        rw [← hT, ← hcl5] at HDO
        replace HDO := Lib.hid HDO
        have hAlt := fun k hk => (hp.row.lt k hk).2
        have hAwb := hp.row.ne_blk hbk (by decide)
        have hobl := hp.blk.lt
        have y2 := hbk.below hba
        have hwba := hwr.trans (hba.mono hwr.size)
        have hAb := fun k hk => (hp.row.lt k hk).1
        have lwb := hbk.lt
        have hFL3 := Lib.hid hfl3
        clear hoo hst hmn hmn0 hSZ hSP hfl3 hSf hT hcl5 hS hV hp hv hfl2 HST HOO
        have p0 := hbk.cell 0
        have p1 := hbk.cell 1
        simp only [List.getElem?_toArray, List.getElem?_cons_zero, List.getElem?_cons_succ] at p0 p1
        go_upto_region 7 with (fail)
        have hob2 := x1.lt
        obtain ⟨ow, how⟩ : ∃ ow, ow = wr.heap.size := ⟨_, rfl⟩
        rw [← how] at x1 hob2 ⊢
        have hAow : ablk A ≠ some ow := fun e => by have := hAlt _ e; omega
        have howp : ow ≠ pb := by omega
        generalize wr.alloc (.cells #[.int .i64 o.kind, .int .i64 o.n, .int .i64 o.bit, .int .u32 o.mask, .slice o.x.A o.x.l.length o.x.c] 33) = w2' at *
        clear p0 p1 e0 e1 e2 e3 e4 hba hbk how
        have o0 := x1.cell 0
        have o1 := x1.cell 1
        have o2 := x1.cell 2
        have o3 := x1.cell 3
        have o4 := x1.cell 4
        simp only [List.getElem?_toArray, List.getElem?_cons_zero, List.getElem?_cons_succ] at o0 o1 o2 o3 o4
        have p0 := y2.cell 0
        have p1 := y2.cell 1
        simp only [List.getElem?_toArray, List.getElem?_cons_zero, List.getElem?_cons_succ] at p0 p1
        go_wp2_with fail
        refine HDO.out.mono ?_
        rintro e w3' ⟨⟨A1, c1, ls1, A5, c5, ls5, rfl, hp1, hS1, hr5, hS5⟩, hf3⟩
        have hw3 : Below w.heap.size w w3' := hwba.trans (hf3.below (B := w.heap.size) hwba.size (fun k hk e => by
          rcases e with e | e
          · omega
          · have := hAb k e; omega))
        have hba : Below w3'.heap.size w3' (w3'.alloc (.cells #[.slice A5 ls5.length c5, .bool cl5] 29)) := (Below.refl _ _).alloc (Nat.le_refl _) _
        have z4 := Blk.new w3' 29 #[.slice A5 ls5.length c5, .bool cl5]
        have y3 := y2.fr hf3 (fun e => e.elim (fun e => gwb1 e.symm) (fun e => hAwb e))
        have y4 := y3.below hba
        have lwb3 := y3.lt
        have HP4 := Lib.hid (hp1.below hba)
        have HR4 := Lib.hid (hr5.below hba)
        have hw4 := hw3.trans (hba.mono hw3.size)
        clear HDO hp1 hr5 hf3 x1 y2 y3 o0 o1 o2 o3 o4 p0 p1
        go_upto_region 8 with (fail)
        obtain ⟨vb, hvb⟩ : ∃ vb, vb = w3'.heap.size := ⟨_, rfl⟩
        rw [← hvb] at z4 lwb3 ⊢
        generalize w3'.alloc (.cells #[.slice A5 ls5.length c5, .bool cl5] 29) = w4 at *
        clear hba hvb hw3
        have p0 := z4.cell 0
        have p1 := z4.cell 1
        simp only [List.getElem?_toArray, List.getElem?_cons_zero, List.getElem?_cons_succ] at p0 p1
        go_wp2_with fail
        refine (same16_any w.heap.size pb A1 c1 ls1 cl5 A5 c5 ls5 T _ w4 HP4.out hS1 HR4.out hS5 (by omega) hFL3.out.2 hw4.size).mono ?_
        rintro e w6 ⟨rfl, hb5⟩
        have hw6 := hw4.trans (hb5.mono hw4.size)
        have z6 := z4.below hb5
        have y6 := y4.below hb5
        have HR6 := HR4.out.below hb5
        have HP6 := HP4.out.below hb5
        have kS : Fr (fun x => x = wb) w6 ((w6.setCell ⟨wb, 0, none⟩ (.slice A5 ls5.length c5)).setCell ⟨wb, 1, none⟩ (.bool cl5)) := ((Fr.refl (fun x => x = wb) w6).setAt wb 0 rfl _).setAt wb 1 rfl _
        have yS := (y6.set_ 0 (.slice A5 ls5.length c5)).set_ 1 (.bool cl5)
        simp only [List.setIfInBounds_toArray, List.set_cons_zero, List.set_cons_succ] at yS
        have hwS : Below w.heap.size w ((w6.setCell ⟨wb, 0, none⟩ (.slice A5 ls5.length c5)).setCell ⟨wb, 1, none⟩ (.bool cl5)) := hw6.trans (kS.below (B := w.heap.size) hw6.size (fun k hk e => by omega))
        have PLS : Hid (PlP w l pb wb (i + 1) ((w6.setCell ⟨wb, 0, none⟩ (.slice A5 ls5.length c5)).setCell ⟨wb, 1, none⟩ (.bool cl5))) := Lib.hid ⟨⟨A1, c1, ls1, cl5, A5, c5, ls5, T, HP6.putR y6 kS gwb1, hS1, yS, HR6.putR y6 kS, hS5, hlen3, hFL3.out.1⟩, hwS⟩
        have fz := fun o => y6.frozen o
        clear HR4 HP4 z4 y4 hb5 p0 p1 HR6 HP6 kS yS hwS
        have p0 := z6.cell 0
        have p1 := z6.cell 1
        simp only [List.getElem?_toArray, List.getElem?_cons_zero, List.getElem?_cons_succ] at p0 p1
        have r0 := y6.cell 0
        have r1 := y6.cell 1
        simp only [List.getElem?_toArray, List.getElem?_cons_zero, List.getElem?_cons_succ] at r0 r1
        go_wp2_with fail
        go_roundw
        case rel => exact ⟨i + 1, hlt, by go_num, PLS.out⟩
        case measure => simp [intOf]; omega
      · have e : i = l.length := by omega
        subst e
        clear hp hS hbk hv hV hSl hSf
        go_wp2_with fail
        refine (lives16_any _).mono ?_
        rintro e w9 ⟨rfl, hb9⟩
        go_wp2_with fail
        go_ret
        exact ⟨rfl, hwr.trans (hb9.mono hwr.size)⟩

end Go.Proofs.Yticfjnjeoikalaa

/- tenderlaw16.Op: as an argument, in slices. -/
namespace Go.Proofs.Yticfjnjeoikalaa
open Go.RowKit Go.WideShapes Go.ChangeShapes Go.ChangeAt Go.Deep Go.Joins

section
variable {H : Type} {enc : TypeId × Value → H} {w : World} {spare : Nat → Bool} {held : Bool}
theorem list5 {α : Type} {l : List α} (h : l.length = 5) : ∃ a0 a1 a2 a3 a4, l = [a0, a1, a2, a3, a4] := by
  match l, h with
  | [a0, a1, a2, a3, a4], _ => exact ⟨_, _, _, _, _, rfl⟩
set_option maxRecDepth 100000 in
theorem open_opP {n : Nat} {cs : List Value} {x : DataW H × List MemPlace} (h : DataW.trod enc Try.prog w 0 spare held n 33 cs = some x) (hw : Within 33 x) :
    ∃ o : OpP, cs = o.cells ∧ o.ok w (fun b => b < w.heap.size) := by
  obtain ⟨ys, n', hcl, hyl, hf⟩ := open_st Try.underlying33 (by kernel_rfl) h (by kernel_rfl) hw
  obtain ⟨a0, a1, a2, a3, a4, rfl⟩ := list5 hcl
  obtain ⟨y0, y1, y2, y3, y4, rfl⟩ := list5 hyl
  obtain ⟨k, e, _, wk⟩ := DataW.trod_int Try.underlying3 (hf 0 _ _ _ rfl rfl rfl).1
  obtain rfl := List.singleton_inj.1 e
  obtain ⟨m, e, _, wm⟩ := DataW.trod_int Try.underlying3 (hf 1 _ _ _ rfl rfl rfl).1
  obtain rfl := List.singleton_inj.1 e
  obtain ⟨q, e, _, wq⟩ := DataW.trod_int Try.underlying3 (hf 2 _ _ _ rfl rfl rfl).1
  obtain rfl := List.singleton_inj.1 e
  obtain ⟨r, e, _, wr⟩ := DataW.trod_int Try.underlying30 (hf 3 _ _ _ rfl rfl rfl).1
  obtain rfl := List.singleton_inj.1 e
  obtain ⟨b, rfl, hb, hbl⟩ := open_bv (hf 4 _ _ _ rfl rfl rfl).1 (hf 4 _ _ _ rfl rfl rfl).2
  exact ⟨⟨k, m, q, r, b⟩, rfl, i64_bd wk, i64_bd wm, i64_bd wq, u32_bd wr, hb, hbl⟩
end
end Go.Proofs.Yticfjnjeoikalaa
