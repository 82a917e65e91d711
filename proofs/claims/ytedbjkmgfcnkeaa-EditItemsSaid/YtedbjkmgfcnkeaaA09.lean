/- edit.moved. -/
import Derived.Test.YtedbjkmgfcnkeaaA08

namespace Go.Proofs.Ytedbjkmgfcnkeaa
open Go.RowKit

theorem ItsOwn.app {w w' : World} {base : Nat} {A A' A2 : Option Addr} {c c' c2 : Nat} {M N : List (List UInt8 × LV)} (h : ItsOwn w base A c M) (h2 : ItsOwn w base A2 c2 N) (hr : OwI w' base A' c' (M ++ N)) (hb : Below base w w')
    (hk : ∀ k, k < w.heap.size → (Value.slice A M.length c).ownBlock ≠ some k → w'.heap[k]? = w.heap[k]?) : ItsOwn w' base A' c' (M ++ N) := by
  have hf : Fr (fun k => (Value.slice A M.length c).ownBlock = some k) w w' := ⟨hb.os, hb.tape, hb.output, hb.size, hk⟩
  refine ⟨hr, fun x hx => ?_⟩
  rcases List.mem_append.1 hx with hx | hx
  · exact own_fr (h.byt x hx) hf (own_apart (h.byt x hx) h.row (by decide))
  · exact own_fr (h2.byt x hx) hf (own_apart (h2.byt x hx) h.row (by decide))
/-- append of items -/
theorem wpList_append_items {w : World} {ops : Array Oper} {rest : List Oper} {o : Oper} {a : Act} {Q : Exit → Act → World → Prop} (hgd : o.guard = none) (s x : Operand) {t : TypeId} (hu : Try.prog.underlying t = some (.slice 30))
    (ho : o.op = .call { callee := .builtin .append, args := #[s, x], argTypes := #[t, t] })
    {base : Nat} {A A2 : Option Addr} {c c2 : Nat} {L N : List (List UInt8 × LV)} (hs : a.eval s = .slice A L.length c) (hown : ItsOwn w base A c L) (hx : a.eval x = .slice A2 N.length c2) (hr : ItsOwn w base A2 c2 N)
    (hsum : L.length + N.length ≤ 1099511627776) (hbase : base ≤ w.heap.size)
    (h : ∀ (A' : Option Addr) (c' : Nat) (w' : World), ItsOwn w' base A' c' (L ++ N) → Below base w w' → wpList Try.prog ops Q rest (a.put o.dst (.slice A' (L.length + N.length) c')) w') : wpList Try.prog ops Q (o :: rest) a w := by
  obtain ⟨i0, hi0, hz0, hz1, hz2⟩ := info_parts item_info
  refine wpList_append_any w hgd s x _ ho base 30 i0 _ 3 48 hu hi0 hz0 hz1 hz2 rfl (by omega) (.slice A L.length c) L.length (L.flatMap itemC) hs hown.row _ A2 N.length c2 (N.flatMap itemC) hx (Rd.of_own hr.row (fun _ _ _ => trivial)) (fun u hu => item_one N u hu) (by simp only [maxLen]; omega) (by omega) hbase ?_
  intro v' w' h1 h2 h3
  obtain ⟨A', c', rfl, _⟩ := own_form h1
  have hb := grown_below h2 hbase (fun g e => (hown.row.lt g e).1)
  refine h A' c' w' (hown.app hr ?_ hb (fun k hk hne => h2.block k hk (fun e => hne e.symm))) hb
  unfold OwI
  rw [List.length_append, List.flatMap_append]
  exact h1

set_option maxRecDepth 100000 in
set_option maxHeartbeats 4000000 in
theorem moved_any (tb : Nat) (mo : Option Nat) (L : List (List UInt8 × LV)) (k : Int) (p t : List UInt8) (dA : Option Addr) (dn dc : Nat) (w : World) (h : TreeAt w tb mo L) (hp : p.length ≤ 1048576) (ht : t.length ≤ 1048576) :
    Calls Try.prog 89 #[.pointer (some ⟨tb, 0, none⟩), .agg #[.int .i64 k, .string ⟨⟨p⟩⟩, .string ⟨⟨t⟩⟩, .slice dA dn dc]] w fun e w' => ∃ (A : Option Addr) (c : Nat) (M : List (List UInt8 × LV)), e = .returned (.tuple #[.slice A M.length c, .int .i64 (movedS (plainL L) p t).2]) ∧ Hid (plainL M = (movedS (plainL L) p t).1) ∧ ItsOwn w' w.heap.size A c M ∧ Below w.heap.size w w' := by
  have hok := h.plain
  obtain ⟨T, hT⟩ : ∃ T, T = plainL L := ⟨_, rfl⟩
  have hTT : Hid (plainL L = T) := Lib.hid hT.symm
  rw [← hT] at hok ⊢
  obtain ⟨R, hR⟩ : ∃ R, R = movedS T p t := ⟨_, rfl⟩
  rw [← hR]
  have HR := Lib.hid hR
  have HT := Lib.hid h
  have HOK := Lib.hid hok
  have hw0 : Below w.heap.size w (w.alloc (.cells #[.int .i64 k, .string ⟨⟨p⟩⟩, .string ⟨⟨t⟩⟩, .slice dA dn dc] 61)) := (by repeat (first | exact Below.refl _ _ | refine Below.alloc ?_ (by simp) _ | refine Below.setCell ?_ (by simp) _ | refine Below.drew ?_))
  have x0 := Blk.new w 61 #[.int .i64 k, .string ⟨⟨p⟩⟩, .string ⟨⟨t⟩⟩, .slice dA dn dc]
  have q2 := x0.cell 2
  simp only [List.getElem?_toArray, List.getElem?_cons_zero, List.getElem?_cons_succ] at q2
  have hfld := fun (k : Int) (v : Value) (w : World) => leaf_kind k v w
  clear h hT hR hok
  go_enter Try.func89, Try.ntmps89
  go_wp2_with fail
  refine (treeGetP (HT.out.below hw0) hTT t ht).mono ?_
  rintro e w1 ⟨⟨A1, c1, l1, rfl, _, _⟩, hb1⟩
  have x1 := x0.below hb1
  have hw1 := hw0.trans (hb1.mono hw0.size)
  clear q2 hb1 x0 hw0
  by_cases hk : kindL (getR T t) = 0
  · have HR1 : Hid (R = if (treeS T p).all (fun q => (moveT q p t).2) = true then ((treeS T p).map (fun q => ((moveT q p t).1, leafS T q)) ++ goneS T p, 0) else ([], 23)) := by
      show _ = _
      rw [HR.out]; unfold movedS; rw [if_neg (by simpa using hk)]
    rw [hk]
    clear HR hk
    have HB := Lib.hid (fun W (hW : Below w1.heap.size w1 W) => treeBelow_any sortsT tb mo L p W ((HT.out.below hw1).below hW) (by omega))
    obtain ⟨S, hS⟩ : ∃ S, S = treeS T p := ⟨_, rfl⟩
    have HSL : Hid (∀ l2, Hid (l2 = (keysR L).filter fun q => underB q p) → Hid (p :: l2 = S)) := Lib.hid (fun l2 h2 => Lib.hid (by rw [h2.out, hS, ← hTT.out]; unfold treeS; rw [keys_plain]))
    have hSl : S.length ≤ 129 := by rw [hS]; exact tree_len HOK.out p
    rw [← hS] at HR1
    have HS := Lib.hid hS
    clear hS
    go_wp2_with fail
    refine wp_region_two [0, 1, 3, 4, 5, 9] 2 6 [(7, false), (8, true)] 10 (fun W => Below w1.heap.size w1 W) (by kernel_rfl) rfl (by kernel_rfl) ?_
    simp only [List.map_cons, List.map_nil, List.filterMap_cons, List.filterMap_nil, List.getElem?_cons_zero, List.getElem?_cons_succ, List.cons_append, List.nil_append, List.drop_succ_cons, List.drop_zero]
    refine mx_val (by kernel_rfl) ⟨_, (by (intro w' hC; clear hC; (try go_simp); (try with_reducible rfl); done)), _, (by (simp only [Act.put, List.setIfInBounds_toArray, List.set_cons_zero, List.set_cons_succ]; rfl)), ?_⟩
    refine mx_val (by kernel_rfl) ⟨_, (by (intro w' hC; (have q := (x1.below hC).cell 1; simp only [List.getElem?_toArray, List.getElem?_cons_zero, List.getElem?_cons_succ] at q); clear hC; (try go_simp); (try with_reducible rfl); done)), _, (by (simp only [Act.put, List.setIfInBounds_toArray, List.set_cons_zero, List.set_cons_succ]; rfl)), ?_⟩
    refine mx_move _ (by kernel_rfl) rfl ⟨_, (by ((try simp [go_sem]); (try rfl); done)), _, (by (simp only [Act.put, List.setIfInBounds_toArray, List.set_cons_zero, List.set_cons_succ]; rfl)), ?_⟩
    refine mx_val (by kernel_rfl) ⟨_, (by (intro w' hC; clear hC; (try go_simp); (try with_reducible rfl); done)), _, (by (simp only [Act.put, List.setIfInBounds_toArray, List.set_cons_zero, List.set_cons_succ]; rfl)), ?_⟩
    refine mx_val (by kernel_rfl) ⟨_, (by (intro w' hC; (have q := (x1.below hC).cell 1; simp only [List.getElem?_toArray, List.getElem?_cons_zero, List.getElem?_cons_succ] at q); clear hC; (try go_simp); (try with_reducible rfl); done)), _, (by (simp only [Act.put, List.setIfInBounds_toArray, List.set_cons_zero, List.set_cons_succ]; rfl)), ?_⟩
    refine mx_move _ (by kernel_rfl) rfl ⟨_, (by ((try simp [go_sem]); (try rfl); done)), _, (by (simp only [Act.put, List.setIfInBounds_toArray, List.set_cons_zero, List.set_cons_succ]; rfl)), ?_⟩
    refine mx_end ((Below.refl _ _).drew) ?_
    refine two_join (fun vi vj W => ∃ (g : Nat) (A2 : Option Addr) (c2 : Nat) (l : List (List UInt8)), vi = .slice (some ⟨g, 0, none⟩) 1 1 ∧ vj = .slice A2 l.length c2 ∧ Hid (p :: l = S) ∧ Hid (W.ownsRow w1.heap.size 9 1 (.slice (some ⟨g, 0, none⟩) 1 1) 1 [stv p]) ∧ Hid (Rd W (fun _ => True) 1 A2 l.length (l.map stv)) ∧ Below w1.heap.size w1 W) (fun vi vj => (by simp only [Act.put, List.setIfInBounds_toArray, List.set_cons_zero, List.set_cons_succ])) ?_ ?_ ?_
    · refine mx_alone ((Below.refl _ _).drew) (by kernel_rfl) ⟨_, _, (by (go_simp; first | done | exact ⟨rfl, rfl⟩)), _, (by (simp only [Act.put, List.setIfInBounds_toArray, List.set_cons_zero, List.set_cons_succ]; rfl)), ?_⟩
      refine mx_call ((Below.refl _ _).drew.alloc (Nat.le_refl _) _) (by kernel_rfl) ?_ (HB.out _ ((Below.refl _ _).drew.alloc (Nat.le_refl _) _)) ?_
      · (go_simp; done)
      rintro e w2 ⟨⟨A2, c2, l2, rfl, hl2, ho2⟩, hb2⟩
      have hX := ((Below.refl w1.heap.size w1).alloc (Nat.le_refl _) (.cells #[.string ⟨⟨p⟩⟩] 9)).drew
      have hlow : Below w1.heap.size w1 w2 := hX.trans (hb2.mono hX.size)
      refine ⟨_, rfl, _, (by (simp only [Act.put, List.setIfInBounds_toArray, List.set_cons_zero, List.set_cons_succ]; rfl)), ?_⟩
      refine mx_end (hlow) ⟨.slice (some ⟨w1.heap.size, 0, none⟩) 1 1, .slice A2 l2.length c2, (by simp only [Act.put, List.setIfInBounds_toArray, List.set_cons_zero, List.set_cons_succ]), w1.heap.size, A2, c2, l2, rfl, rfl, (HSL.out l2 hl2), Lib.hid (own_below (show ((w1.alloc (.cells #[.string ⟨⟨p⟩⟩] 9)).drew).ownsRow w1.heap.size 9 1 (.slice (some ⟨w1.heap.size, 0, none⟩) 1 1) 1 [stv p] from World.ownsRow_lit (base := w1.heap.size) (e := 9) (size := 1) w1 #[stv p] 1 (Nat.le_refl _) (by simp [maxLen]) (by simp)) hb2), Lib.hid (own_txt ho2), hlow⟩
    · refine mx_call ((Below.refl _ _).drew) (by kernel_rfl) ?_ (HB.out _ (Below.refl _ _).drew) ?_
      · (go_simp; done)
      rintro e w2 ⟨⟨A2, c2, l2, rfl, hl2, ho2⟩, hb2⟩
      have hlow : Below w1.heap.size w1 w2 := (Below.refl _ _).drew.trans (hb2.mono (Nat.le_refl _))
      refine ⟨_, rfl, _, (by (simp only [Act.put, List.setIfInBounds_toArray, List.set_cons_zero, List.set_cons_succ]; rfl)), ?_⟩
      refine mx_alone (hlow) (by kernel_rfl) ⟨_, _, (by (go_simp; first | done | exact ⟨rfl, rfl⟩)), _, (by (simp only [Act.put, List.setIfInBounds_toArray, List.set_cons_zero, List.set_cons_succ]; rfl)), ?_⟩
      refine mx_end (hlow.alloc hlow.size _) ⟨.slice (some ⟨w2.heap.size, 0, none⟩) 1 1, .slice A2 l2.length c2, (by simp only [Act.put, List.setIfInBounds_toArray, List.set_cons_zero, List.set_cons_succ]), w2.heap.size, A2, c2, l2, rfl, rfl, (HSL.out l2 hl2), Lib.hid (World.ownsRow_lit (base := w1.heap.size) (e := 9) (size := 1) w2 #[stv p] 1 hlow.size (by simp [maxLen]) (by simp)), Lib.hid ((own_txt ho2).alloc _), hlow.alloc hlow.size _⟩
    rintro vi vj w4 ⟨g, A2, c2, l, rfl, rfl, hsl, hlit, hrd, hb4⟩
    have hw4 := hw1.trans (hb4.mono hw1.size)
    have hll : S.length = 1 + l.length := by rw [← hsl.out, List.length_cons, Nat.add_comm]
    have hl128 : l.length ≤ 128 := by omega
    simp only [Act.put, List.setIfInBounds_toArray, List.set_cons_zero, List.set_cons_succ]
    obtain ⟨i0, hi0, hz0, hz1, hz2⟩ := info_parts str_info
    refine mx_wp hb4 (by kernel_rfl) (wp_append_any _ (.tmp 18) (.tmp 22) 46 rfl w1.heap.size 9 i0 _ 1 16 Try.underlying46 hi0 hz0 hz1 hz2 rfl (by omega) (.slice (some ⟨g, 0, none⟩) 1 1) 1 [stv p] rfl hlit.out _ A2 l.length c2 (l.map stv) rfl hrd.out (st_one _) (by simp only [maxLen]; omega) (by omega) hb4.size ?_)
    intro v5 w5 hown5 hg5 hat5
    obtain ⟨A5, c5, rfl, hjk⟩ := own_form hown5
    clear hjk hat5
    have hb5 : Below w1.heap.size w1 w5 := hb4.trans (grown_below hg5 hb4.size (fun g hg => (hlit.out.lt _ hg).1))
    have hown6 : w5.ownsRow w1.heap.size 9 1 (.slice A5 S.length c5) S.length (S.map stv) := by
      rw [hll, ← hsl.out]
      exact hown5
    rw [← hll]
    have HO := Lib.hid hown6
    clear hown5 hown6 hg5 hlit hrd hsl hll hl128 hb4 hw4
    simp only [Act.put, List.setIfInBounds_toArray, List.set_cons_zero, List.set_cons_succ]
    refine mx_val (by kernel_rfl) ⟨_, (by (intro w' hC; clear hC; (try go_simp); (try with_reducible rfl); done)), _, (by (simp only [Act.put, List.setIfInBounds_toArray, List.set_cons_zero, List.set_cons_succ]; rfl)), ?_⟩
    refine mx_end hb5 ?_
    have hw5 := hw1.trans (hb5.mono hw1.size)
    have x5 := x1.below hb5
    have HT5 := Lib.hid (HT.out.below hw5)
    have HS2 := HS
    clear hb5 HB HSL x1 hw1 hi0 hz0 hz1 hz2
    go_wp2_with fail
    go_loopw [4, 25] (fun ov iv wr => ∃ (i : Nat) (A : Option Addr) (c : Nat) (M : List (List UInt8 × LV)), i ≤ S.length ∧ iv = .int .i64 (i : Int) ∧ ov = .slice A M.length c ∧ Hid (plainL M = (S.take i).map fun q => ((moveT q p t).1, leafS T q)) ∧ Hid ((S.take i).all (fun q => (moveT q p t).2) = true) ∧ M.length = i ∧ ItsOwn wr w5.heap.size A c M ∧ Below w5.heap.size w5 wr) (fun _ iv _ => S.length - (intOf iv).toNat)
    case atStart => exact ⟨0, none, 0, [], Nat.zero_le _, rfl, rfl, rfl, rfl, rfl, ⟨World.ownsRow_nil _ _ _ _, by simp⟩, Below.refl _ _⟩
    case round =>
      obtain ⟨i, A, c, M, hi, rfl, rfl, hM, hall, hMi, hO, hb⟩ := hrel
      have hMe := Lib.hid hMi
      clear hMi
      have xr := x5.below hb
      have q1 := xr.cell 1
      have q2 := xr.cell 2
      simp only [List.getElem?_toArray, List.getElem?_cons_zero, List.getElem?_cons_succ] at q1 q2
      by_cases hlt : i < S.length
      · obtain ⟨b, off, hA, hbb, c0⟩ := txt_at HO.out hlt
        have c0' := cellAt hb hbb c0
        have hql : S[i].length ≤ 1048576 := by
          have hm := List.getElem_mem hlt
          have hm2 : S[i] = p ∨ S[i] ∈ keysR T := by
            have : S[i] ∈ treeS T p := by rw [← HS.out]; exact hm
            unfold treeS at this
            rcases List.mem_cons.1 this with e | e
            · exact .inl e
            · exact .inr (List.mem_filter.1 e).1
          rcases hm2 with e | e
          · rw [e]; exact hp
          · obtain ⟨y, hy, e2⟩ := List.mem_map.1 e
            rw [← e2]
            have := goodB_len (HOK.out.good y hy).1
            omega
        have hts := List.take_succ_eq_append_getElem hlt
        have hnn : (moveT S[i] p t).2 = false → Hid (R = ([], 23)) := fun e => Lib.hid (by
          rw [HR1.out, if_neg]
          intro ha
          have := List.all_eq_true.1 ha _ (List.getElem_mem hlt)
          rw [e] at this
          cases this)
        subst hA
        obtain ⟨q, hq⟩ : ∃ q, q = S[i] := ⟨_, rfl⟩
        rw [← hq] at c0' hql hts hnn
        simp only [stv] at c0'
        have HMV := Lib.hid (fun W => move_any ⟨⟨q⟩⟩ ⟨⟨p⟩⟩ ⟨⟨t⟩⟩ (by show q.length ≤ _; omega) (by show p.length ≤ _; omega) (by show t.length ≤ _; omega) W)
        have HTS := Lib.hid hts
        clear hts c0 hq
        go_wp2_with fail
        refine (HMV.out wr).mono ?_
        rintro e w6 ⟨s, b6, rfl, hs6, hb6⟩
        have hs61 : tl s = (moveT q p t).1 := congrArg Prod.fst hs6.out
        have hs62 : b6 = (moveT q p t).2 := congrArg Prod.snd hs6.out
        have hb56 := hb.trans (hb6.mono hb.size)
        have hO6 := hO.below hb6
        clear q1 q2 xr hs6 HMV c0' hbb hO hb6
        obtain ⟨⟨sl⟩⟩ := s
        replace hs61 : sl = (moveT q p t).1 := hs61
        rcases b6 with _ | _
        · have hRR := hnn hs62.symm
          obtain rfl := hRR.out
          clear hRR hs62
          go_wp2_with fail
          go_ret2
          exact ⟨none, 0, [], rfl, rfl, ⟨World.ownsRow_nil _ _ _ _, by simp⟩, hw5.trans (hb56.mono hw5.size)⟩
        · have HG := Lib.hid (treeGetP (HT5.out.below hb56) hTT q hql)
          have HAL : Hid ((S.take (i + 1)).all (fun q => (moveT q p t).2) = true) := Lib.hid (by
            rw [HTS.out, List.all_append, hall.out, List.all_cons, List.all_nil, ← hs62]; rfl)
          have HS1 := Lib.hid hs61
          clear hnn hs62 hs61
          go_wp2_with fail
          refine HG.out.mono ?_
          rintro e w7 ⟨⟨A7, c7, l7, rfl, hl7, ho7⟩, hb7⟩
          obtain ⟨y, hy⟩ : ∃ y : List UInt8 × LV, y = (sl, ⟨kindL (getR T q), ⟨A7, c7, l7⟩⟩) := ⟨_, rfl⟩
          have hb57 := hb56.trans (hb7.mono hb56.size)
          have ho8 : OwB w7 w5.heap.size (.slice y.2.x.A y.2.x.l.length y.2.x.c) y.2.x.l := by
            rw [hy]
            exact own_base ho7 (fun g hg => Nat.le_trans hb56.size (ho7.lt g hg).1)
          have hpy : plainL [y] = [((moveT q p t).1, leafS T q)] := by
            rw [hy]
            show [(sl, (kindL (getR T q), l7))] = _
            rw [hl7.out, HS1.out]
            rfl
          have HN : Hid (plainL (M ++ [y]) = (S.take (i + 1)).map fun q => ((moveT q p t).1, leafS T q)) := by
            show _ = _
            rw [plain_app, hpy, hM.out, HTS.out, List.map_append]
            rfl
          have hba : Below w5.heap.size w5 (w7.alloc (.cells #[.string ⟨⟨sl⟩⟩, .int .i64 (kindL (getR T q)), .slice A7 l7.length c7] 30)) := hb57.alloc hb57.size _
          have hal : Below w7.heap.size w7 (w7.alloc (.cells #[.string ⟨⟨sl⟩⟩, .int .i64 (kindL (getR T q)), .slice A7 l7.length c7] 30)) := (Below.refl _ w7).alloc (Nat.le_refl _) _
          have hO3 := Lib.hid ((hO6.below hb7).below hal)
          have ho4 := Lib.hid (own_below ho8 hal)
          have ra : Hid (Rd (w7.alloc (.cells #[.string ⟨⟨sl⟩⟩, .int .i64 (kindL (getR T q)), .slice A7 l7.length c7] 30)) (fun _ => True) 3 (some ⟨w7.heap.size, 0, none⟩) 1 (itemC y)) := (Rd.lit (w := w7) (t := 30) (size := 3) (n := 1) (xs := itemC y) (by rw [hy]; rfl) rfl rfl).mono (fun _ _ _ => trivial)
          have hlb := Lib.hid (show M.length + 1 ≤ 1099511627776 by have := hMe.out; omega)
          generalize kindL (getR T q) = kk at *
          clear hO6 ho7 ho8 hal hb7 hl7 hy hpy hM hb57 hb56 HG HTS HS1 hall
          go_wp2_with (at_builtin; refine wpList_append_item rfl (.tmp 40) (.tmp 46) (t := 22) rfl rfl rfl hO3.out.row rfl ra.out hlb.out hba.size ?_; intro A8 c8 w8 ho5 hb5 hk5)
          have hb6 := hba.trans hb5
          have hO5 := hO3.out.push ho4.out ho5 hb5 hk5
          have hl5 : (M ++ [y]).length = i + 1 := by rw [List.length_append, hMe.out]; rfl
          go_roundw
          case rel => exact ⟨i + 1, A8, c8, M ++ [y], hlt, by go_num, by simp, HN, HAL, hl5, hO5, hb6⟩
          case measure => simp [intOf]; omega
      · have e : i = S.length := by omega
        subst e
        rw [List.take_length] at hM hall
        have HRR : Hid (R = (S.map (fun q => ((moveT q p t).1, leafS T q)) ++ goneS T p, 0)) := Lib.hid (by rw [HR1.out, if_pos hall.out])
        have HG := Lib.hid (gone_any tb mo L p wr (HT5.out.below hb) (by omega))
        rw [hTT.out] at HG
        have hMl := hMe
        clear hall HR1 q2
        go_wp2_with fail
        refine HG.out.mono ?_
        rintro e w6 ⟨A6, c6, N, rfl, hN, hO6, hb6⟩
        have hb56 := hb.trans (hb6.mono hb.size)
        have hOM := Lib.hid (hO.below hb6)
        have hON := Lib.hid (hO6.base (base' := w5.heap.size) hb.size)
        have hNl : N.length ≤ 129 := by
          rw [← plain_len, hN.out]
          exact gone_len HOK.out p
        have hlb := Lib.hid (show M.length + N.length ≤ 1099511627776 by rw [hMl.out]; omega)
        have HP1 : Hid (plainL (M ++ N) = R.1) := Lib.hid (by rw [HRR.out, plain_app, hM.out, hN.out])
        have hR2 : R.2 = 0 := by rw [HRR.out]
        have HR2 := Lib.hid hR2
        clear hO hO6 hM hN hR2 HG hb6 hNl q1 xr
        go_wp2_with (at_builtin; refine wpList_append_items rfl (.tmp 49) (.tmp 53) (t := 22) rfl rfl rfl hOM.out rfl hON.out hlb.out hb56.size ?_; intro A8 c8 w8 ho8 hb8)
        have e8 : M.length + N.length = (M ++ N).length := by simp
        go_ret2
        rw [HR2.out]
        refine ⟨A8, c8, M ++ N, ?_, HP1, ho8.base hw5.size, hw5.trans ((hb56.trans hb8).mono hw5.size)⟩
        rw [← e8]
        rfl
  · have hkb : (kindL (getR T t) != 0) = true := by simpa using hk
    obtain rfl : R = ([], 21) := by rw [HR.out]; unfold movedS; rw [if_pos hk]
    generalize kindL (getR T t) = kk at *
    go_wp2_with fail
    go_ret2
    exact ⟨none, 0, [], rfl, rfl, ⟨World.ownsRow_nil _ _ _ _, by simp⟩, hw1⟩

end Go.Proofs.Ytedbjkmgfcnkeaa

/- edit.plan. -/
namespace Go.Proofs.Ytedbjkmgfcnkeaa
open Go.RowKit

theorem item_lit (w : World) (y : List UInt8 × LV) : (w.alloc (.cells #[.string ⟨⟨y.1⟩⟩, .int .i64 y.2.k, .slice y.2.x.A y.2.x.l.length y.2.x.c] 30)).ownsRow w.heap.size 30 3 (.slice (some ⟨w.heap.size, 0, none⟩) 1 1) 1 (itemC y) :=
  World.ownsRow_lit (base := w.heap.size) (e := 30) (size := 3) w #[.string ⟨⟨y.1⟩⟩, .int .i64 y.2.k, .slice y.2.x.A y.2.x.l.length y.2.x.c] 1 (Nat.le_refl _) (by simp [maxLen]) (by simp)
/-- one item, just laid -/
theorem ItsOwn.lit {w : World} {base : Nat} (y : List UInt8 × LV) (hb : base ≤ w.heap.size) (hy : OwB w base (.slice y.2.x.A y.2.x.l.length y.2.x.c) y.2.x.l) :
    ItsOwn (w.alloc (.cells #[.string ⟨⟨y.1⟩⟩, .int .i64 y.2.k, .slice y.2.x.A y.2.x.l.length y.2.x.c] 30)) base (some ⟨w.heap.size, 0, none⟩) 1 [y] := by
  refine ⟨?_, fun x hx => ?_⟩
  · have := own_base (item_lit w y) (base' := base) (fun g hg => by
      have e : w.heap.size = g := by simpa [Value.ownBlock] using hg
      omega)
    unfold OwI
    rw [List.flatMap_cons, List.flatMap_nil, List.append_nil]
    exact this
  · rw [List.mem_singleton.1 hx]
    exact own_below hy ((Below.refl _ _).alloc (Nat.le_refl _) _)

set_option maxRecDepth 100000 in
set_option maxHeartbeats 4000000 in
theorem plan_any (tb : Nat) (mo : Option Nat) (L : List (List UInt8 × LV)) (k : Int) (p t : List UInt8) (dA : Option Addr) (dc : Nat) (dl : List UInt8) (Z : Nat → Prop) (w : World) (h : TreeAt w tb mo L) (hp : p.length ≤ 1048576) (ht : t.length ≤ 1048576) (hy : By w Z dA dl) (hdl : dl.length ≤ 4096) (hk : 1 ≤ k ∧ k ≤ 5) :
    Calls Try.prog 67 #[.pointer (some ⟨tb, 0, none⟩), .agg #[.int .i64 k, .string ⟨⟨p⟩⟩, .string ⟨⟨t⟩⟩, .slice dA dl.length dc]] w fun e w' => ∃ (A : Option Addr) (c : Nat) (M : List (List UInt8 × LV)), e = .returned (.tuple #[.slice A M.length c, .int .i64 (planS (plainL L) k p t dl).2]) ∧ Hid (plainL M = (planS (plainL L) k p t dl).1) ∧ ItsOwn w' w.heap.size A c M ∧ Below w.heap.size w w' := by
  have hok := h.plain
  obtain ⟨T, hT⟩ : ∃ T, T = plainL L := ⟨_, rfl⟩
  have hTT : Hid (plainL L = T) := Lib.hid hT.symm
  rw [← hT] at hok ⊢
  obtain ⟨R, hR⟩ : ∃ R, R = planS T k p t dl := ⟨_, rfl⟩
  rw [← hR]
  have HR := Lib.hid hR
  have HT := Lib.hid h
  have HY := Lib.hid hy
  have hdn : (dataL (getR T p)).length ≤ 4096 := by
    rcases hg : getR T p with _ | v
    · simp [dataL]
    · have h1 := (hok.good _ (getR_mem hg)).2.2
      show v.2.length ≤ 4096
      unfold checkN at h1
      dsimp only at h1
      by_cases k1 : v.1 = 1
      · rw [if_pos k1] at h1
        by_cases h2 : v.2.length ≤ 4096
        · exact h2
        · rw [if_neg h2] at h1; simp at h1
      · rw [if_neg k1] at h1
        by_cases h3 : v.1 = 0 ∨ v.1 = 2
        · rw [if_pos h3] at h1
          by_cases h4 : v.2.length = 0
          · omega
          · rw [if_neg h4] at h1; simp at h1
        · rw [if_neg h3] at h1; simp at h1
  clear h hT hR hok hy
  obtain rfl | rfl | rfl | rfl | rfl : k = 1 ∨ k = 2 ∨ k = 3 ∨ k = 4 ∨ k = 5 := by omega
  · replace HR : Hid (R = ([(p, (1, dl))], 0)) := Lib.hid (by rw [HR.out]; unfold planS; simp)
    have hw0 : Below w.heap.size w (w.alloc (.cells #[.int .i64 1, .string ⟨⟨p⟩⟩, .string ⟨⟨t⟩⟩, .slice dA dl.length dc] 61)) := (by repeat (first | exact Below.refl _ _ | refine Below.alloc ?_ (by simp) _ | refine Below.setCell ?_ (by simp) _ | refine Below.drew ?_))
    have x0 := Blk.new w 61 #[.int .i64 1, .string ⟨⟨p⟩⟩, .string ⟨⟨t⟩⟩, .slice dA dl.length dc]
    have q1 := x0.cell 1
    simp only [List.getElem?_toArray, List.getElem?_cons_zero, List.getElem?_cons_succ] at q1
    go_enter Try.func67, Try.ntmps67
    go_wp2_with fail
    refine (treeGetP (HT.out.below hw0) hTT p hp).mono ?_
    rintro e w1 ⟨⟨A1, c1, l1, rfl, hl1, ho1⟩, hb1⟩
    have x1 := x0.below hb1
    have hw1 := hw0.trans (hb1.mono hw0.size)
    clear q1 hb1 x0
    have hwb : Below w1.heap.size w1 (w1.alloc (.cells #[.int .i64 (kindL (getR T p)), .slice A1 l1.length c1] 28)) := (Below.refl _ _).alloc (Nat.le_refl _) _
    have lb := Blk.new w1 28 #[.int .i64 (kindL (getR T p)), .slice A1 l1.length c1]
    have x2 := x1.below hwb
    have hw2 := hw1.trans (hwb.mono hw1.size)
    have q0 := x2.cell 0
    have r0 := lb.cell 0
    have r1 := lb.cell 1
    simp only [List.getElem?_toArray, List.getElem?_cons_zero, List.getElem?_cons_succ] at q0 r0 r1
    have q3 := x2.cell 3
    simp only [List.getElem?_toArray, List.getElem?_cons_zero, List.getElem?_cons_succ] at q3
    have hd3 : (dl.length : Int) ≤ 4096 := by omega
    have hy3 := Lib.hid ((HY.out.below hw1).below hwb)
    have hw3 := hw2
    have x3 := x2
    clear hl1 ho1 hwb lb r0 r1 x1 x2 hw2
    go_wp2_with fail
    clear q0 q3
    generalize w1.alloc (.cells #[.int .i64 (kindL (getR T p)), .slice A1 l1.length c1] 28) = w3 at *
    obtain ⟨A3, c3, l3, rfl, rfl, hdd⟩ : ∃ (A3 : Option Addr) (c3 : Nat) (l3 : List UInt8), dA = A3 ∧ dc = c3 ∧ dl = l3 := ⟨_, _, _, rfl, rfl, rfl⟩
    subst hdd
    have HD : Hid (dl = dl) := rfl
    refine wp_region_m [true, true, true, true, false] (fun W => Below w3.heap.size w3 W) (by kernel_rfl) (by kernel_rfl) ?_
    simp only [List.length_cons, List.length_nil, Nat.zero_add, Nat.reduceAdd, List.take_succ_cons, List.take_zero, List.drop_succ_cons, List.drop_zero]
    refine mx_val (by kernel_rfl) ⟨_, (by (intro w' hC; clear hC; (try go_simp); (try with_reducible rfl); done)), _, (by (simp only [Act.put, List.setIfInBounds_toArray, List.set_cons_zero, List.set_cons_succ]; rfl)), ?_⟩
    refine mx_val (by kernel_rfl) ⟨_, (by (intro w' hC; (have q := (x3.below hC).cell 1; simp only [List.getElem?_toArray, List.getElem?_cons_zero, List.getElem?_cons_succ] at q); clear hC; (try go_simp); (try with_reducible rfl); done)), _, (by (simp only [Act.put, List.setIfInBounds_toArray, List.set_cons_zero, List.set_cons_succ]; rfl)), ?_⟩
    refine mx_val (by kernel_rfl) ⟨_, (by (intro w' hC; clear hC; (try go_simp); (try with_reducible rfl); done)), _, (by (simp only [Act.put, List.setIfInBounds_toArray, List.set_cons_zero, List.set_cons_succ]; rfl)), ?_⟩
    refine mx_val (by kernel_rfl) ⟨_, (by (intro w' hC; (have q := (x3.below hC).cell 3; simp only [List.getElem?_toArray, List.getElem?_cons_zero, List.getElem?_cons_succ] at q); clear hC; (try go_simp); (try with_reducible rfl); done)), _, (by (simp only [Act.put, List.setIfInBounds_toArray, List.set_cons_zero, List.set_cons_succ]; rfl)), ?_⟩
    refine mx_call ((Below.refl _ _).drew) (by kernel_rfl) ?_ (leafOf_any dA dc dl _ w3.drew (hy3.out.drew) (by omega)) ?_
    · (go_simp; done)
    rintro e w4 ⟨A4, c4, l4, rfl, hl4, ho4, hb4⟩
    have hlow4 : Below w3.heap.size w3 w4 := (Below.refl _ _).drew.trans (hb4.mono (Nat.le_refl _))
    refine ⟨_, rfl, _, (by (simp only [Act.put, List.setIfInBounds_toArray, List.set_cons_zero, List.set_cons_succ]; rfl)), ?_⟩
    refine mx_end hlow4 ?_
    have hw4 := hw3.trans (hlow4.mono hw3.size)
    have HI := Lib.hid (ItsOwn.lit (w := w4) (base := w.heap.size) (p, ⟨1, ⟨A4, c4, l4⟩⟩) hw4.size (own_base ho4 (fun g hg => Nat.le_trans hw3.size (ho4.lt g hg).1)))
    have HP : Hid (plainL [(p, (⟨1, ⟨A4, c4, l4⟩⟩ : LV))] = R.1) := Lib.hid (by rw [HR.out, ← HD.out, ← hl4.out]; rfl)
    have hR2 : R.2 = 0 := by rw [HR.out]
    have HR2 := Lib.hid hR2
    clear hR2 ho4 hl4 hb4 hlow4 hy3 x3 hw3 HR HD
    go_wp2_with fail
    go_ret2
    exact ⟨some ⟨w4.heap.size, 0, none⟩, 1, _, by rw [HR2.out]; rfl, HP.out, HI.out, hw4.alloc hw4.size _⟩
  · by_cases h2 : kindL (getR T p) = 2
    · replace HR : Hid (R = ([], 22)) := Lib.hid (by rw [HR.out]; unfold planS; simp [h2])
      have hw0 : Below w.heap.size w (w.alloc (.cells #[.int .i64 2, .string ⟨⟨p⟩⟩, .string ⟨⟨t⟩⟩, .slice dA dl.length dc] 61)) := (by repeat (first | exact Below.refl _ _ | refine Below.alloc ?_ (by simp) _ | refine Below.setCell ?_ (by simp) _ | refine Below.drew ?_))
      have x0 := Blk.new w 61 #[.int .i64 2, .string ⟨⟨p⟩⟩, .string ⟨⟨t⟩⟩, .slice dA dl.length dc]
      have q1 := x0.cell 1
      simp only [List.getElem?_toArray, List.getElem?_cons_zero, List.getElem?_cons_succ] at q1
      go_enter Try.func67, Try.ntmps67
      go_wp2_with fail
      refine (treeGetP (HT.out.below hw0) hTT p hp).mono ?_
      rintro e w1 ⟨⟨A1, c1, l1, rfl, hl1, ho1⟩, hb1⟩
      have x1 := x0.below hb1
      have hw1 := hw0.trans (hb1.mono hw0.size)
      clear q1 hb1 x0
      have hwb : Below w1.heap.size w1 (w1.alloc (.cells #[.int .i64 (kindL (getR T p)), .slice A1 l1.length c1] 28)) := (Below.refl _ _).alloc (Nat.le_refl _) _
      have lb := Blk.new w1 28 #[.int .i64 (kindL (getR T p)), .slice A1 l1.length c1]
      have x2 := x1.below hwb
      have hw2 := hw1.trans (hwb.mono hw1.size)
      have q0 := x2.cell 0
      have r0 := lb.cell 0
      have r1 := lb.cell 1
      simp only [List.getElem?_toArray, List.getElem?_cons_zero, List.getElem?_cons_succ] at q0 r0 r1
      rw [h2] at q0 r0 r1 hw2 ⊢
      go_wp2_with fail
      go_ret2
      exact ⟨none, 0, [], by rw [HR.out]; rfl, by show _ = _; rw [HR.out]; rfl, ⟨World.ownsRow_nil _ _ _ _, by simp⟩, hw2⟩
    · replace HR : Hid (R = if 4096 < (dataL (getR T p) ++ dl).length then ([], 13) else ([(p, (1, dataL (getR T p) ++ dl))], 0)) := Lib.hid (by rw [HR.out]; unfold planS; simp [h2])
      have h2b : (kindL (getR T p) == 2) = false := by simpa using h2
      have hw0 : Below w.heap.size w (w.alloc (.cells #[.int .i64 2, .string ⟨⟨p⟩⟩, .string ⟨⟨t⟩⟩, .slice dA dl.length dc] 61)) := (by repeat (first | exact Below.refl _ _ | refine Below.alloc ?_ (by simp) _ | refine Below.setCell ?_ (by simp) _ | refine Below.drew ?_))
      have x0 := Blk.new w 61 #[.int .i64 2, .string ⟨⟨p⟩⟩, .string ⟨⟨t⟩⟩, .slice dA dl.length dc]
      have q1 := x0.cell 1
      simp only [List.getElem?_toArray, List.getElem?_cons_zero, List.getElem?_cons_succ] at q1
      go_enter Try.func67, Try.ntmps67
      go_wp2_with fail
      refine (treeGetP (HT.out.below hw0) hTT p hp).mono ?_
      rintro e w1 ⟨⟨A1, c1, l1, rfl, hl1, ho1⟩, hb1⟩
      have x1 := x0.below hb1
      have hw1 := hw0.trans (hb1.mono hw0.size)
      clear q1 hb1 x0
      have hwb : Below w1.heap.size w1 (w1.alloc (.cells #[.int .i64 (kindL (getR T p)), .slice A1 l1.length c1] 28)) := (Below.refl _ _).alloc (Nat.le_refl _) _
      have lb := Blk.new w1 28 #[.int .i64 (kindL (getR T p)), .slice A1 l1.length c1]
      have x2 := x1.below hwb
      have hw2 := hw1.trans (hwb.mono hw1.size)
      have q0 := x2.cell 0
      have r0 := lb.cell 0
      have r1 := lb.cell 1
      simp only [List.getElem?_toArray, List.getElem?_cons_zero, List.getElem?_cons_succ] at q0 r0 r1
      have q3 := x2.cell 3
      simp only [List.getElem?_toArray, List.getElem?_cons_zero, List.getElem?_cons_succ] at q3
      generalize kindL (getR T p) = kk at *
      have HD0 : Hid (l1 = dataL (getR T p)) := hl1
      have hl1n : l1.length ≤ 4096 := by rw [hl1.out]; exact hdn
      have ho2 := Lib.hid (own_below (own_base ho1 (fun g hg => Nat.le_trans hw0.size (ho1.lt g hg).1) : OwB w1 w.heap.size (.slice A1 l1.length c1) l1) hwb)
      have hy2 := Lib.hid ((HY.out.below hw1).below hwb)
      have hhs := hw2.size
      clear hl1 ho1 hwb lb x1
      go_wp2_with (at_builtin; refine wpList_append_by rfl (.tmp 23) (.tmp 25) rfl (v := .slice A1 l1.length c1) rfl ho2.out rfl hy2.out (by omega) hhs ?_; intro L8 A8 c8 w8 hL8 ho8 hg8 hat8; have hxb8 := x2.grown hg8 (fun e => by have := (x2.own_ne ho2.out (by decide)); exact this e); have f8 := hxb8.frozen 3; have q38 := hxb8.cell 3; simp only [List.getElem?_toArray, List.getElem?_cons_zero, List.getElem?_cons_succ] at q38)
      · have h8 : (4096 : Int) < (L8.length : Int) := by assumption
        have h9 : 4096 < L8.length := by omega
        replace HR : Hid (R = ([], 13)) := Lib.hid (by rw [HR.out, ← HD0.out, ← hL8.out, if_pos h9])
        have hb8 : Below w.heap.size w w8 := hw2.trans (grown_below hg8 hhs (fun g hg => (ho2.out.lt _ hg).1))
        go_ret2
        exact ⟨none, 0, [], by rw [HR.out]; rfl, by show _ = _; rw [HR.out]; rfl, ⟨World.ownsRow_nil _ _ _ _, by simp⟩, hb8.setCell (p := ⟨w.heap.size, 3, none⟩) (Nat.le_refl _) _⟩
      · have h8 : (L8.length : Int) ≤ 4096 := by assumption
        have h9 : L8.length ≤ 4096 := by omega
        replace HR : Hid (R = ([(p, (1, L8))], 0)) := Lib.hid (by rw [HR.out, ← HD0.out, ← hL8.out, if_neg (by omega)])
        have hb8 : Below w.heap.size w w8 := hw2.trans (grown_below hg8 hhs (fun g hg => (ho2.out.lt _ hg).1))
        have x3 := hxb8.set_ 3 (.slice A8 L8.length c8)
        have hw3 : Below w.heap.size w (w8.setCell ⟨w.heap.size, 3, none⟩ (.slice A8 L8.length c8)) := hb8.setCell (p := ⟨w.heap.size, 3, none⟩) (Nat.le_refl _) _
        have ho9 : OwB (w8.setCell ⟨w.heap.size, 3, none⟩ (.slice A8 L8.length c8)) w.heap.size (.slice A8 L8.length c8) L8 := own_fr ho8 ((Fr.refl (fun g => g = w.heap.size) w8).setAt w.heap.size 3 rfl _) (fun g hg e => hxb8.own_ne ho8 (by decide) (by rw [hg, e]))
        have hy3 := Lib.hid ho9.rd
        have HD : Hid (L8 = L8) := rfl
        clear q0 r0 r1 q3 f8 q38 hxb8 hg8 hat8 ho8 ho9 hb8 hw2 hy2 ho2 x2 hhs
        generalize w8.setCell ⟨w.heap.size, 3, none⟩ (.slice A8 L8.length c8) = w3 at *
        simp only [List.setIfInBounds_toArray, List.set_cons_zero, List.set_cons_succ] at x3
        refine wp_region_m [true, true, true, true, false] (fun W => Below w3.heap.size w3 W) (by kernel_rfl) (by kernel_rfl) ?_
        simp only [List.length_cons, List.length_nil, Nat.zero_add, Nat.reduceAdd, List.take_succ_cons, List.take_zero, List.drop_succ_cons, List.drop_zero]
        refine mx_val (by kernel_rfl) ⟨_, (by (intro w' hC; clear hC; (try go_simp); (try with_reducible rfl); done)), _, (by (simp only [Act.put, List.setIfInBounds_toArray, List.set_cons_zero, List.set_cons_succ]; rfl)), ?_⟩
        refine mx_val (by kernel_rfl) ⟨_, (by (intro w' hC; (have q := (x3.below hC).cell 1; simp only [List.getElem?_toArray, List.getElem?_cons_zero, List.getElem?_cons_succ] at q); clear hC; (try go_simp); (try with_reducible rfl); done)), _, (by (simp only [Act.put, List.setIfInBounds_toArray, List.set_cons_zero, List.set_cons_succ]; rfl)), ?_⟩
        refine mx_val (by kernel_rfl) ⟨_, (by (intro w' hC; clear hC; (try go_simp); (try with_reducible rfl); done)), _, (by (simp only [Act.put, List.setIfInBounds_toArray, List.set_cons_zero, List.set_cons_succ]; rfl)), ?_⟩
        refine mx_val (by kernel_rfl) ⟨_, (by (intro w' hC; (have q := (x3.below hC).cell 3; simp only [List.getElem?_toArray, List.getElem?_cons_zero, List.getElem?_cons_succ] at q); clear hC; (try go_simp); (try with_reducible rfl); done)), _, (by (simp only [Act.put, List.setIfInBounds_toArray, List.set_cons_zero, List.set_cons_succ]; rfl)), ?_⟩
        refine mx_call ((Below.refl _ _).drew) (by kernel_rfl) ?_ (leafOf_any A8 c8 L8 _ w3.drew (hy3.out.drew) (by omega)) ?_
        · (go_simp; done)
        rintro e w4 ⟨A4, c4, l4, rfl, hl4, ho4, hb4⟩
        have hlow4 : Below w3.heap.size w3 w4 := (Below.refl _ _).drew.trans (hb4.mono (Nat.le_refl _))
        refine ⟨_, rfl, _, (by (simp only [Act.put, List.setIfInBounds_toArray, List.set_cons_zero, List.set_cons_succ]; rfl)), ?_⟩
        refine mx_end hlow4 ?_
        have hw4 := hw3.trans (hlow4.mono hw3.size)
        have HI := Lib.hid (ItsOwn.lit (w := w4) (base := w.heap.size) (p, ⟨1, ⟨A4, c4, l4⟩⟩) hw4.size (own_base ho4 (fun g hg => Nat.le_trans hw3.size (ho4.lt g hg).1)))
        have HP : Hid (plainL [(p, (⟨1, ⟨A4, c4, l4⟩⟩ : LV))] = R.1) := Lib.hid (by rw [HR.out, ← HD.out, ← hl4.out]; rfl)
        have hR2 : R.2 = 0 := by rw [HR.out]
        have HR2 := Lib.hid hR2
        clear hR2 ho4 hl4 hb4 hlow4 hy3 x3 hw3 HR HD
        go_wp2_with fail
        go_ret2
        exact ⟨some ⟨w4.heap.size, 0, none⟩, 1, _, by rw [HR2.out]; rfl, HP.out, HI.out, hw4.alloc hw4.size _⟩
  · replace HR : Hid (R = ([(p, (2, []))], 0)) := Lib.hid (by rw [HR.out]; unfold planS; simp)
    have hw0 : Below w.heap.size w (w.alloc (.cells #[.int .i64 3, .string ⟨⟨p⟩⟩, .string ⟨⟨t⟩⟩, .slice dA dl.length dc] 61)) := (by repeat (first | exact Below.refl _ _ | refine Below.alloc ?_ (by simp) _ | refine Below.setCell ?_ (by simp) _ | refine Below.drew ?_))
    have x0 := Blk.new w 61 #[.int .i64 3, .string ⟨⟨p⟩⟩, .string ⟨⟨t⟩⟩, .slice dA dl.length dc]
    have q1 := x0.cell 1
    simp only [List.getElem?_toArray, List.getElem?_cons_zero, List.getElem?_cons_succ] at q1
    go_enter Try.func67, Try.ntmps67
    go_wp2_with fail
    refine (treeGetP (HT.out.below hw0) hTT p hp).mono ?_
    rintro e w1 ⟨⟨A1, c1, l1, rfl, hl1, ho1⟩, hb1⟩
    have x1 := x0.below hb1
    have hw1 := hw0.trans (hb1.mono hw0.size)
    clear q1 hb1 x0
    have hwb : Below w1.heap.size w1 (w1.alloc (.cells #[.int .i64 (kindL (getR T p)), .slice A1 l1.length c1] 28)) := (Below.refl _ _).alloc (Nat.le_refl _) _
    have lb := Blk.new w1 28 #[.int .i64 (kindL (getR T p)), .slice A1 l1.length c1]
    have x2 := x1.below hwb
    have hw2 := hw1.trans (hwb.mono hw1.size)
    have q0 := x2.cell 0
    have r0 := lb.cell 0
    have r1 := lb.cell 1
    simp only [List.getElem?_toArray, List.getElem?_cons_zero, List.getElem?_cons_succ] at q0 r0 r1
    have hw3 := hw2
    have x3 := x2
    clear hl1 ho1 hwb lb r0 r1 x1 x2 hw2
    go_wp2_with fail
    clear q0
    generalize w1.alloc (.cells #[.int .i64 (kindL (getR T p)), .slice A1 l1.length c1] 28) = w3 at *
    refine wp_region_m [true, true, false] (fun W => Below w3.heap.size w3 W) (by kernel_rfl) (by kernel_rfl) ?_
    simp only [List.length_cons, List.length_nil, Nat.zero_add, Nat.reduceAdd, List.take_succ_cons, List.take_zero, List.drop_succ_cons, List.drop_zero]
    refine mx_val (by kernel_rfl) ⟨_, (by (intro w' hC; clear hC; (try go_simp); (try with_reducible rfl); done)), _, (by (simp only [Act.put, List.setIfInBounds_toArray, List.set_cons_zero, List.set_cons_succ]; rfl)), ?_⟩
    refine mx_val (by kernel_rfl) ⟨_, (by (intro w' hC; (have q := (x3.below hC).cell 1; simp only [List.getElem?_toArray, List.getElem?_cons_zero, List.getElem?_cons_succ] at q); clear hC; (try go_simp); (try with_reducible rfl); done)), _, (by (simp only [Act.put, List.setIfInBounds_toArray, List.set_cons_zero, List.set_cons_succ]; rfl)), ?_⟩
    refine mx_call ((Below.refl _ _).drew) (by kernel_rfl) ?_ (leafDir_any w3.drew) ?_
    · (go_simp; done)
    rintro e w4 ⟨rfl, hb4⟩
    have hlow4 : Below w3.heap.size w3 w4 := (Below.refl _ _).drew.trans (hb4.mono (Nat.le_refl _))
    refine ⟨_, rfl, _, (by (simp only [Act.put, List.setIfInBounds_toArray, List.set_cons_zero, List.set_cons_succ]; rfl)), ?_⟩
    refine mx_end hlow4 ?_
    have hw4 := hw3.trans (hlow4.mono hw3.size)
    have HI := Lib.hid (ItsOwn.lit (w := w4) (base := w.heap.size) (p, ⟨2, ⟨none, 0, []⟩⟩) hw4.size (OwB.nil _ _))
    have HP : Hid (plainL [(p, (⟨2, ⟨none, 0, []⟩⟩ : LV))] = R.1) := Lib.hid (by rw [HR.out]; rfl)
    have hR2 : R.2 = 0 := by rw [HR.out]
    have HR2 := Lib.hid hR2
    clear hR2 hb4 hlow4 x3 hw3 HR
    go_wp2_with fail
    go_ret2
    exact ⟨some ⟨w4.heap.size, 0, none⟩, 1, _, by rw [HR2.out]; rfl, HP.out, HI.out, hw4.alloc hw4.size _⟩
  · by_cases h0 : kindL (getR T p) = 0
    · replace HR : Hid (R = ([], 20)) := Lib.hid (by rw [HR.out]; unfold planS; simp [h0])
      have hw0 : Below w.heap.size w (w.alloc (.cells #[.int .i64 4, .string ⟨⟨p⟩⟩, .string ⟨⟨t⟩⟩, .slice dA dl.length dc] 61)) := (by repeat (first | exact Below.refl _ _ | refine Below.alloc ?_ (by simp) _ | refine Below.setCell ?_ (by simp) _ | refine Below.drew ?_))
      have x0 := Blk.new w 61 #[.int .i64 4, .string ⟨⟨p⟩⟩, .string ⟨⟨t⟩⟩, .slice dA dl.length dc]
      have q1 := x0.cell 1
      simp only [List.getElem?_toArray, List.getElem?_cons_zero, List.getElem?_cons_succ] at q1
      go_enter Try.func67, Try.ntmps67
      go_wp2_with fail
      refine (treeGetP (HT.out.below hw0) hTT p hp).mono ?_
      rintro e w1 ⟨⟨A1, c1, l1, rfl, hl1, ho1⟩, hb1⟩
      have x1 := x0.below hb1
      have hw1 := hw0.trans (hb1.mono hw0.size)
      clear q1 hb1 x0
      have hwb : Below w1.heap.size w1 (w1.alloc (.cells #[.int .i64 (kindL (getR T p)), .slice A1 l1.length c1] 28)) := (Below.refl _ _).alloc (Nat.le_refl _) _
      have lb := Blk.new w1 28 #[.int .i64 (kindL (getR T p)), .slice A1 l1.length c1]
      have x2 := x1.below hwb
      have hw2 := hw1.trans (hwb.mono hw1.size)
      have q0 := x2.cell 0
      have r0 := lb.cell 0
      have r1 := lb.cell 1
      simp only [List.getElem?_toArray, List.getElem?_cons_zero, List.getElem?_cons_succ] at q0 r0 r1
      rw [h0] at q0 r0 r1 hw2 ⊢
      have r0b : ((0 : Int) == 0) = true := rfl
      go_wp2_with fail
      go_ret2
      exact ⟨none, 0, [], by rw [HR.out]; rfl, by show _ = _; rw [HR.out]; rfl, ⟨World.ownsRow_nil _ _ _ _, by simp⟩, hw2⟩
    · replace HR : Hid (R = (goneS T p, 0)) := Lib.hid (by rw [HR.out]; unfold planS; simp [h0])
      have h0b : (kindL (getR T p) == 0) = false := by simpa using h0
      have hw0 : Below w.heap.size w (w.alloc (.cells #[.int .i64 4, .string ⟨⟨p⟩⟩, .string ⟨⟨t⟩⟩, .slice dA dl.length dc] 61)) := (by repeat (first | exact Below.refl _ _ | refine Below.alloc ?_ (by simp) _ | refine Below.setCell ?_ (by simp) _ | refine Below.drew ?_))
      have x0 := Blk.new w 61 #[.int .i64 4, .string ⟨⟨p⟩⟩, .string ⟨⟨t⟩⟩, .slice dA dl.length dc]
      have q1 := x0.cell 1
      simp only [List.getElem?_toArray, List.getElem?_cons_zero, List.getElem?_cons_succ] at q1
      go_enter Try.func67, Try.ntmps67
      go_wp2_with fail
      refine (treeGetP (HT.out.below hw0) hTT p hp).mono ?_
      rintro e w1 ⟨⟨A1, c1, l1, rfl, hl1, ho1⟩, hb1⟩
      have x1 := x0.below hb1
      have hw1 := hw0.trans (hb1.mono hw0.size)
      clear q1 hb1 x0
      have hwb : Below w1.heap.size w1 (w1.alloc (.cells #[.int .i64 (kindL (getR T p)), .slice A1 l1.length c1] 28)) := (Below.refl _ _).alloc (Nat.le_refl _) _
      have lb := Blk.new w1 28 #[.int .i64 (kindL (getR T p)), .slice A1 l1.length c1]
      have x2 := x1.below hwb
      have hw2 := hw1.trans (hwb.mono hw1.size)
      have q0 := x2.cell 0
      have r0 := lb.cell 0
      have r1 := lb.cell 1
      simp only [List.getElem?_toArray, List.getElem?_cons_zero, List.getElem?_cons_succ] at q0 r0 r1
      have q1 := x2.cell 1
      simp only [List.getElem?_toArray, List.getElem?_cons_zero, List.getElem?_cons_succ] at q1
      have HG := Lib.hid (gone_any tb mo L p _ (HT.out.below hw2) hp)
      rw [hTT.out] at HG
      generalize kindL (getR T p) = kk at *
      go_wp2_with fail
      refine HG.out.mono ?_
      rintro e w3 ⟨A3, c3, M3, rfl, hM3, hO3, hb3⟩
      have hw3 := hw2.trans (hb3.mono hw2.size)
      have HO := Lib.hid (hO3.base hw2.size)
      have HP : Hid (plainL M3 = R.1) := Lib.hid (by rw [HR.out, hM3.out])
      have hR2 : R.2 = 0 := by rw [HR.out]
      have HR2 := Lib.hid hR2
      clear hR2 hM3 hO3 HR HG
      go_wp2_with fail
      go_ret2
      exact ⟨A3, c3, M3, by rw [HR2.out]; rfl, HP.out, HO.out, hw3⟩
  · by_cases h0 : kindL (getR T p) = 0
    · replace HR : Hid (R = ([], 20)) := Lib.hid (by rw [HR.out]; unfold planS; simp [h0])
      have hw0 : Below w.heap.size w (w.alloc (.cells #[.int .i64 5, .string ⟨⟨p⟩⟩, .string ⟨⟨t⟩⟩, .slice dA dl.length dc] 61)) := (by repeat (first | exact Below.refl _ _ | refine Below.alloc ?_ (by simp) _ | refine Below.setCell ?_ (by simp) _ | refine Below.drew ?_))
      have x0 := Blk.new w 61 #[.int .i64 5, .string ⟨⟨p⟩⟩, .string ⟨⟨t⟩⟩, .slice dA dl.length dc]
      have q1 := x0.cell 1
      simp only [List.getElem?_toArray, List.getElem?_cons_zero, List.getElem?_cons_succ] at q1
      go_enter Try.func67, Try.ntmps67
      go_wp2_with fail
      refine (treeGetP (HT.out.below hw0) hTT p hp).mono ?_
      rintro e w1 ⟨⟨A1, c1, l1, rfl, hl1, ho1⟩, hb1⟩
      have x1 := x0.below hb1
      have hw1 := hw0.trans (hb1.mono hw0.size)
      clear q1 hb1 x0
      have hwb : Below w1.heap.size w1 (w1.alloc (.cells #[.int .i64 (kindL (getR T p)), .slice A1 l1.length c1] 28)) := (Below.refl _ _).alloc (Nat.le_refl _) _
      have lb := Blk.new w1 28 #[.int .i64 (kindL (getR T p)), .slice A1 l1.length c1]
      have x2 := x1.below hwb
      have hw2 := hw1.trans (hwb.mono hw1.size)
      have q0 := x2.cell 0
      have r0 := lb.cell 0
      have r1 := lb.cell 1
      simp only [List.getElem?_toArray, List.getElem?_cons_zero, List.getElem?_cons_succ] at q0 r0 r1
      rw [h0] at q0 r0 r1 hw2 ⊢
      have r0b : ((0 : Int) == 0) = true := rfl
      go_wp2_with fail
      go_ret2
      exact ⟨none, 0, [], by rw [HR.out]; rfl, by show _ = _; rw [HR.out]; rfl, ⟨World.ownsRow_nil _ _ _ _, by simp⟩, hw2⟩
    · replace HR : Hid (R = movedS T p t) := Lib.hid (by rw [HR.out]; unfold planS; simp [h0])
      have h0b : (kindL (getR T p) == 0) = false := by simpa using h0
      have hw0 : Below w.heap.size w (w.alloc (.cells #[.int .i64 5, .string ⟨⟨p⟩⟩, .string ⟨⟨t⟩⟩, .slice dA dl.length dc] 61)) := (by repeat (first | exact Below.refl _ _ | refine Below.alloc ?_ (by simp) _ | refine Below.setCell ?_ (by simp) _ | refine Below.drew ?_))
      have x0 := Blk.new w 61 #[.int .i64 5, .string ⟨⟨p⟩⟩, .string ⟨⟨t⟩⟩, .slice dA dl.length dc]
      have q1 := x0.cell 1
      simp only [List.getElem?_toArray, List.getElem?_cons_zero, List.getElem?_cons_succ] at q1
      go_enter Try.func67, Try.ntmps67
      go_wp2_with fail
      refine (treeGetP (HT.out.below hw0) hTT p hp).mono ?_
      rintro e w1 ⟨⟨A1, c1, l1, rfl, hl1, ho1⟩, hb1⟩
      have x1 := x0.below hb1
      have hw1 := hw0.trans (hb1.mono hw0.size)
      clear q1 hb1 x0
      have hwb : Below w1.heap.size w1 (w1.alloc (.cells #[.int .i64 (kindL (getR T p)), .slice A1 l1.length c1] 28)) := (Below.refl _ _).alloc (Nat.le_refl _) _
      have lb := Blk.new w1 28 #[.int .i64 (kindL (getR T p)), .slice A1 l1.length c1]
      have x2 := x1.below hwb
      have hw2 := hw1.trans (hwb.mono hw1.size)
      have q0 := x2.cell 0
      have r0 := lb.cell 0
      have r1 := lb.cell 1
      simp only [List.getElem?_toArray, List.getElem?_cons_zero, List.getElem?_cons_succ] at q0 r0 r1
      have q1 := x2.cell 1
      have q2 := x2.cell 2
      have q3 := x2.cell 3
      simp only [List.getElem?_toArray, List.getElem?_cons_zero, List.getElem?_cons_succ] at q1 q2 q3
      have HG := Lib.hid (moved_any tb mo L 5 p t dA dl.length dc _ (HT.out.below hw2) hp ht)
      rw [hTT.out, ← HR.out] at HG
      generalize kindL (getR T p) = kk at *
      go_wp2_with fail
      refine HG.out.mono ?_
      rintro e w3 ⟨A3, c3, M3, rfl, hM3, hO3, hb3⟩
      have hw3 := hw2.trans (hb3.mono hw2.size)
      have HO := Lib.hid (hO3.base hw2.size)
      clear hO3 HR HG
      go_wp2_with fail
      go_ret2
      exact ⟨A3, c3, M3, rfl, hM3, HO.out, hw3⟩

end Go.Proofs.Ytedbjkmgfcnkeaa

/- tenderref03: User. -/
namespace Go.Proofs.Ytedbjkmgfcnkeaa
open Go.RowKit

theorem refUser_any (s : ByteArray) (hs : s.size ≤ 9223372036854775807) (w : World) : Calls Try.prog 66 #[.string s] w fun e w' => e = .returned (.bool (userB (tl s))) ∧ Below w.heap.size w w' := by
  have HG := Lib.hid (fun w => refGood_any s hs w)
  cases h : goodB (tl s)
  · have hr : userB (tl s) = false := by unfold userB; rw [h]; rfl
    rw [hr]
    rw [h] at HG
    clear hr h
    go_enter Try.func66, Try.ntmps66
    go_wp2_with fail
    refine (HG.out _).mono ?_
    rintro e w1 ⟨rfl, hb⟩
    go_wp2_with fail
    go_ret
    exact ⟨rfl, hb⟩
  · have h0 : 0 < s.size := by have := List.length_pos_iff.2 (goodB_ne h); rwa [tl_len] at this
    obtain ⟨R, hR⟩ : ∃ R, R = userB (tl s) := ⟨_, rfl⟩
    have HR : Hid (R = !((tl s).head? == some 126)) := by show _ = _; rw [hR]; unfold userB; rw [h]; rfl
    rw [← hR]
    rw [h] at HG
    clear hR h
    go_enter Try.func66, Try.ntmps66
    go_wp2_with fail
    refine (HG.out _).mono ?_
    rintro e w1 ⟨rfl, hb⟩
    go_wp2_with fail
    go_ret
    refine ⟨ret_b ?_, hb⟩
    rw [HR.out]
    have e : (tl s).head? = some s[0] := by
      obtain ⟨⟨l⟩⟩ := s
      cases l with
      | nil => exact (Nat.lt_irrefl 0 h0).elim
      | cons c l => rfl
    rw [e, Bool.eq_iff_iff]
    generalize s[0] = c
    by_cases hc : c = 126
    · subst hc; decide
    · have h2 : ¬ c.toNat = 126 := fun e => hc (UInt8.toNat_inj.1 e)
      simp [hc]
      omega
end Go.Proofs.Ytedbjkmgfcnkeaa

/- edit.Check and tenderref10.Check. -/
namespace Go.Proofs.Ytedbjkmgfcnkeaa
open Go.RowKit


set_option maxRecDepth 100000 in
set_option maxHeartbeats 1000000 in
theorem editCheck_any (k : Int) (p t : List UInt8) (A : Option Addr) (n c : Nat) (w : World) (hp : p.length ≤ 140737488355328) (ht : t.length ≤ 140737488355328) (hn : n ≤ 140737488355328) :
    Calls Try.prog 34 #[.agg #[.int .i64 k, .string ⟨⟨p⟩⟩, .string ⟨⟨t⟩⟩, .slice A n c]] w fun e w' => e = .returned (.int .i64 (checkX k p t n)) ∧ Below w.heap.size w w' := by
  obtain ⟨M, hM⟩ : ∃ M, M = checkX k p t n := ⟨_, rfl⟩
  rw [← hM]
  have HM := Lib.hid hM
  have hw0 : Below w.heap.size w (w.alloc (.cells #[.int .i64 k, .string ⟨⟨p⟩⟩, .string ⟨⟨t⟩⟩, .slice A n c] 61)) := (by repeat (first | exact Below.refl _ _ | refine Below.alloc ?_ (by simp) _ | refine Below.setCell ?_ (by simp) _ | refine Below.drew ?_))
  have x0 := Blk.new w 61 #[.int .i64 k, .string ⟨⟨p⟩⟩, .string ⟨⟨t⟩⟩, .slice A n c]
  have HU1 := Lib.hid (fun W => user_any ⟨⟨p⟩⟩ (by show p.length ≤ _; omega) W)
  have HU2 := Lib.hid (fun W => user_any ⟨⟨t⟩⟩ (by show t.length ≤ _; omega) W)
  have HV := Lib.hid (fun W => under_any ⟨⟨t⟩⟩ ⟨⟨p⟩⟩ (by show t.length ≤ _; omega) (by show p.length ≤ _; omega) W)
  rw [show tl ⟨⟨p⟩⟩ = p from rfl] at HU1 HV
  rw [show tl ⟨⟨t⟩⟩ = t from rfl] at HU2 HV
  clear hM
  have q0 := x0.cell 0
  have q1 := x0.cell 1
  have q2 := x0.cell 2
  have q3 := x0.cell 3
  simp only [List.getElem?_toArray, List.getElem?_cons_zero, List.getElem?_cons_succ] at q0 q1 q2 q3
  rcases hu1 : userB p with _ | _
  · rw [hu1] at HU1
    obtain rfl : M = 23 := by rw [HM.out]; unfold checkX; rw [if_pos (.inl hu1)]
    go_enter Try.func34, Try.ntmps34
    go_wp2_with fail
    refine (HU1.out _).mono ?_
    rintro e w1 ⟨rfl, hb1⟩
    have x1 := x0.below hb1
    have hw1 := hw0.trans (hb1.mono hw0.size)
    clear q0 q1 q2 q3 hb1
    have q0 := x1.cell 0
    have q1 := x1.cell 1
    have q2 := x1.cell 2
    have q3 := x1.cell 3
    simp only [List.getElem?_toArray, List.getElem?_cons_zero, List.getElem?_cons_succ] at q0 q1 q2 q3
    go_wp2_with fail
    go_ret
    exact ⟨rfl, hw1⟩
  · rw [hu1] at HU1
    by_cases hk5 : k = 5
    · subst hk5
      rcases hu2 : userB t with _ | _
      · rw [hu2] at HU2
        obtain rfl : M = 23 := by rw [HM.out]; unfold checkX; rw [if_pos (.inr ⟨rfl, hu2⟩)]
        go_enter Try.func34, Try.ntmps34
        go_wp2_with fail
        refine (HU1.out _).mono ?_
        rintro e w1 ⟨rfl, hb1⟩
        have x1 := x0.below hb1
        have hw1 := hw0.trans (hb1.mono hw0.size)
        clear q0 q1 q2 q3 hb1
        have q0 := x1.cell 0
        have q1 := x1.cell 1
        have q2 := x1.cell 2
        have q3 := x1.cell 3
        simp only [List.getElem?_toArray, List.getElem?_cons_zero, List.getElem?_cons_succ] at q0 q1 q2 q3
        go_wp2_with fail
        refine (HU2.out _).mono ?_
        rintro e w2 ⟨rfl, hb2⟩
        have x2 := x1.below hb2
        have hw2 := hw1.trans (hb2.mono hw1.size)
        clear q0 q1 q2 q3 hb2
        have q0 := x2.cell 0
        have q1 := x2.cell 1
        have q2 := x2.cell 2
        have q3 := x2.cell 3
        simp only [List.getElem?_toArray, List.getElem?_cons_zero, List.getElem?_cons_succ] at q0 q1 q2 q3
        go_wp2_with fail
        go_ret
        exact ⟨rfl, hw2⟩
      · rw [hu2] at HU2
        by_cases htp : t = p
        · obtain rfl : M = 2 := by rw [HM.out]; unfold checkX; rw [if_neg (by simp [hu1, hu2]), if_pos (.inr (.inr ⟨rfl, .inl htp⟩))]
          subst htp
          have htb : (t == t) = true := by simp
          go_enter Try.func34, Try.ntmps34
          go_wp2_with fail
          refine (HU1.out _).mono ?_
          rintro e w1 ⟨rfl, hb1⟩
          have x1 := x0.below hb1
          have hw1 := hw0.trans (hb1.mono hw0.size)
          clear q0 q1 q2 q3 hb1
          have q0 := x1.cell 0
          have q1 := x1.cell 1
          have q2 := x1.cell 2
          have q3 := x1.cell 3
          simp only [List.getElem?_toArray, List.getElem?_cons_zero, List.getElem?_cons_succ] at q0 q1 q2 q3
          go_wp2_with fail
          refine (HU2.out _).mono ?_
          rintro e w2 ⟨rfl, hb2⟩
          have x2 := x1.below hb2
          have hw2 := hw1.trans (hb2.mono hw1.size)
          clear q0 q1 q2 q3 hb2
          have q0 := x2.cell 0
          have q1 := x2.cell 1
          have q2 := x2.cell 2
          have q3 := x2.cell 3
          simp only [List.getElem?_toArray, List.getElem?_cons_zero, List.getElem?_cons_succ] at q0 q1 q2 q3
          go_wp2_with fail
          go_ret
          exact ⟨rfl, hw2⟩
        · have htb : (t == p) = false := by simpa using htp
          rcases huv : underB t p with _ | _
          · rw [huv] at HV
            by_cases hn2 : 4096 < n
            · obtain rfl : M = 13 := by rw [HM.out]; unfold checkX; rw [if_neg (by simp [hu1, hu2]), if_neg (by simp [htp, huv]), if_pos hn2]
              have hn3 : (n : Int) > 4096 := by omega
              go_enter Try.func34, Try.ntmps34
              go_wp2_with fail
              refine (HU1.out _).mono ?_
              rintro e w1 ⟨rfl, hb1⟩
              have x1 := x0.below hb1
              have hw1 := hw0.trans (hb1.mono hw0.size)
              clear q0 q1 q2 q3 hb1
              have q0 := x1.cell 0
              have q1 := x1.cell 1
              have q2 := x1.cell 2
              have q3 := x1.cell 3
              simp only [List.getElem?_toArray, List.getElem?_cons_zero, List.getElem?_cons_succ] at q0 q1 q2 q3
              go_wp2_with fail
              refine (HU2.out _).mono ?_
              rintro e w2 ⟨rfl, hb2⟩
              have x2 := x1.below hb2
              have hw2 := hw1.trans (hb2.mono hw1.size)
              clear q0 q1 q2 q3 hb2
              have q0 := x2.cell 0
              have q1 := x2.cell 1
              have q2 := x2.cell 2
              have q3 := x2.cell 3
              simp only [List.getElem?_toArray, List.getElem?_cons_zero, List.getElem?_cons_succ] at q0 q1 q2 q3
              go_wp2_with fail
              refine (HV.out _).mono ?_
              rintro e w3 ⟨rfl, hb3⟩
              have x3 := x2.below hb3
              have hw3 := hw2.trans (hb3.mono hw2.size)
              clear q0 q1 q2 q3 hb3
              have q0 := x3.cell 0
              have q1 := x3.cell 1
              have q2 := x3.cell 2
              have q3 := x3.cell 3
              simp only [List.getElem?_toArray, List.getElem?_cons_zero, List.getElem?_cons_succ] at q0 q1 q2 q3
              go_wp2_with fail
              go_ret
              exact ⟨rfl, hw3⟩
            · obtain rfl : M = 0 := by rw [HM.out]; unfold checkX; rw [if_neg (by simp [hu1, hu2]), if_neg (by simp [htp, huv]), if_neg hn2]
              have hn3 : (n : Int) ≤ 4096 := by omega
              go_enter Try.func34, Try.ntmps34
              go_wp2_with fail
              refine (HU1.out _).mono ?_
              rintro e w1 ⟨rfl, hb1⟩
              have x1 := x0.below hb1
              have hw1 := hw0.trans (hb1.mono hw0.size)
              clear q0 q1 q2 q3 hb1
              have q0 := x1.cell 0
              have q1 := x1.cell 1
              have q2 := x1.cell 2
              have q3 := x1.cell 3
              simp only [List.getElem?_toArray, List.getElem?_cons_zero, List.getElem?_cons_succ] at q0 q1 q2 q3
              go_wp2_with fail
              refine (HU2.out _).mono ?_
              rintro e w2 ⟨rfl, hb2⟩
              have x2 := x1.below hb2
              have hw2 := hw1.trans (hb2.mono hw1.size)
              clear q0 q1 q2 q3 hb2
              have q0 := x2.cell 0
              have q1 := x2.cell 1
              have q2 := x2.cell 2
              have q3 := x2.cell 3
              simp only [List.getElem?_toArray, List.getElem?_cons_zero, List.getElem?_cons_succ] at q0 q1 q2 q3
              go_wp2_with fail
              refine (HV.out _).mono ?_
              rintro e w3 ⟨rfl, hb3⟩
              have x3 := x2.below hb3
              have hw3 := hw2.trans (hb3.mono hw2.size)
              clear q0 q1 q2 q3 hb3
              have q0 := x3.cell 0
              have q1 := x3.cell 1
              have q2 := x3.cell 2
              have q3 := x3.cell 3
              simp only [List.getElem?_toArray, List.getElem?_cons_zero, List.getElem?_cons_succ] at q0 q1 q2 q3
              go_wp2_with fail
              go_ret
              exact ⟨rfl, hw3⟩
          · rw [huv] at HV
            obtain rfl : M = 2 := by rw [HM.out]; unfold checkX; rw [if_neg (by simp [hu1, hu2]), if_pos (.inr (.inr ⟨rfl, .inr huv⟩))]
            go_enter Try.func34, Try.ntmps34
            go_wp2_with fail
            refine (HU1.out _).mono ?_
            rintro e w1 ⟨rfl, hb1⟩
            have x1 := x0.below hb1
            have hw1 := hw0.trans (hb1.mono hw0.size)
            clear q0 q1 q2 q3 hb1
            have q0 := x1.cell 0
            have q1 := x1.cell 1
            have q2 := x1.cell 2
            have q3 := x1.cell 3
            simp only [List.getElem?_toArray, List.getElem?_cons_zero, List.getElem?_cons_succ] at q0 q1 q2 q3
            go_wp2_with fail
            refine (HU2.out _).mono ?_
            rintro e w2 ⟨rfl, hb2⟩
            have x2 := x1.below hb2
            have hw2 := hw1.trans (hb2.mono hw1.size)
            clear q0 q1 q2 q3 hb2
            have q0 := x2.cell 0
            have q1 := x2.cell 1
            have q2 := x2.cell 2
            have q3 := x2.cell 3
            simp only [List.getElem?_toArray, List.getElem?_cons_zero, List.getElem?_cons_succ] at q0 q1 q2 q3
            go_wp2_with fail
            refine (HV.out _).mono ?_
            rintro e w3 ⟨rfl, hb3⟩
            have x3 := x2.below hb3
            have hw3 := hw2.trans (hb3.mono hw2.size)
            clear q0 q1 q2 q3 hb3
            have q0 := x3.cell 0
            have q1 := x3.cell 1
            have q2 := x3.cell 2
            have q3 := x3.cell 3
            simp only [List.getElem?_toArray, List.getElem?_cons_zero, List.getElem?_cons_succ] at q0 q1 q2 q3
            go_wp2_with fail
            go_ret
            exact ⟨rfl, hw3⟩
    · have hk5b : (k == 5) = false := by simpa using hk5
      by_cases hr : 1 ≤ k ∧ k ≤ 5
      · by_cases hn2 : 4096 < n
        · obtain rfl : M = 13 := by rw [HM.out]; unfold checkX; rw [if_neg (by simp [hu1, hk5]), if_neg (by simp [hk5]; omega), if_pos hn2]
          have hn3 : (n : Int) > 4096 := by omega
          obtain rfl | rfl | rfl | rfl : k = 1 ∨ k = 2 ∨ k = 3 ∨ k = 4 := by omega
          all_goals
            go_enter Try.func34, Try.ntmps34
            go_wp2_with fail
            refine (HU1.out _).mono ?_
            rintro e w1 ⟨rfl, hb1⟩
            have x1 := x0.below hb1
            have hw1 := hw0.trans (hb1.mono hw0.size)
            clear q0 q1 q2 q3 hb1
            have q0 := x1.cell 0
            have q1 := x1.cell 1
            have q2 := x1.cell 2
            have q3 := x1.cell 3
            simp only [List.getElem?_toArray, List.getElem?_cons_zero, List.getElem?_cons_succ] at q0 q1 q2 q3
            go_wp2_with fail
            go_ret
            exact ⟨rfl, hw1⟩
        · obtain rfl : M = 0 := by rw [HM.out]; unfold checkX; rw [if_neg (by simp [hu1, hk5]), if_neg (by simp [hk5]; omega), if_neg hn2]
          have hn3 : (n : Int) ≤ 4096 := by omega
          obtain rfl | rfl | rfl | rfl : k = 1 ∨ k = 2 ∨ k = 3 ∨ k = 4 := by omega
          all_goals
            go_enter Try.func34, Try.ntmps34
            go_wp2_with fail
            refine (HU1.out _).mono ?_
            rintro e w1 ⟨rfl, hb1⟩
            have x1 := x0.below hb1
            have hw1 := hw0.trans (hb1.mono hw0.size)
            clear q0 q1 q2 q3 hb1
            have q0 := x1.cell 0
            have q1 := x1.cell 1
            have q2 := x1.cell 2
            have q3 := x1.cell 3
            simp only [List.getElem?_toArray, List.getElem?_cons_zero, List.getElem?_cons_succ] at q0 q1 q2 q3
            go_wp2_with fail
            go_ret
            exact ⟨rfl, hw1⟩
      · obtain rfl : M = 2 := by rw [HM.out]; unfold checkX; rw [if_neg (by simp [hu1, hk5]), if_pos (by omega)]
        have h1 : (k == 1) = false := by simp; omega
        have h2 : (k == 2) = false := by simp; omega
        have h3 : (k == 3) = false := by simp; omega
        have h4 : (k == 4) = false := by simp; omega
        by_cases hk : k < 1
        · clear h1
          go_enter Try.func34, Try.ntmps34
          go_wp2_with fail
          refine (HU1.out _).mono ?_
          rintro e w1 ⟨rfl, hb1⟩
          have x1 := x0.below hb1
          have hw1 := hw0.trans (hb1.mono hw0.size)
          clear q0 q1 q2 q3 hb1
          have q0 := x1.cell 0
          have q1 := x1.cell 1
          have q2 := x1.cell 2
          have q3 := x1.cell 3
          simp only [List.getElem?_toArray, List.getElem?_cons_zero, List.getElem?_cons_succ] at q0 q1 q2 q3
          go_wp2_with fail
          go_ret
          exact ⟨rfl, hw1⟩
        · have hkg : 5 < k := by omega
          have hkl : ¬ k < 1 := by omega
          go_enter Try.func34, Try.ntmps34
          go_wp2_with fail
          refine (HU1.out _).mono ?_
          rintro e w1 ⟨rfl, hb1⟩
          have x1 := x0.below hb1
          have hw1 := hw0.trans (hb1.mono hw0.size)
          clear q0 q1 q2 q3 hb1
          have q0 := x1.cell 0
          have q1 := x1.cell 1
          have q2 := x1.cell 2
          have q3 := x1.cell 3
          simp only [List.getElem?_toArray, List.getElem?_cons_zero, List.getElem?_cons_succ] at q0 q1 q2 q3
          go_wp2_with fail
          go_ret
          exact ⟨rfl, hw1⟩


set_option maxRecDepth 100000 in
set_option maxHeartbeats 1000000 in
theorem editCheckR_any (k : Int) (p t : List UInt8) (A : Option Addr) (n c : Nat) (w : World) (hp : p.length ≤ 140737488355328) (ht : t.length ≤ 140737488355328) (hn : n ≤ 140737488355328) :
    Calls Try.prog 35 #[.agg #[.int .i64 k, .string ⟨⟨p⟩⟩, .string ⟨⟨t⟩⟩, .slice A n c]] w fun e w' => e = .returned (.int .i64 (checkX k p t n)) ∧ Below w.heap.size w w' := by
  obtain ⟨M, hM⟩ : ∃ M, M = checkX k p t n := ⟨_, rfl⟩
  rw [← hM]
  have HM := Lib.hid hM
  have hw0 : Below w.heap.size w (w.alloc (.cells #[.int .i64 k, .string ⟨⟨p⟩⟩, .string ⟨⟨t⟩⟩, .slice A n c] 61)) := (by repeat (first | exact Below.refl _ _ | refine Below.alloc ?_ (by simp) _ | refine Below.setCell ?_ (by simp) _ | refine Below.drew ?_))
  have x0 := Blk.new w 61 #[.int .i64 k, .string ⟨⟨p⟩⟩, .string ⟨⟨t⟩⟩, .slice A n c]
  have HU1 := Lib.hid (fun W => refUser_any ⟨⟨p⟩⟩ (by show p.length ≤ _; omega) W)
  have HU2 := Lib.hid (fun W => refUser_any ⟨⟨t⟩⟩ (by show t.length ≤ _; omega) W)
  have HV := Lib.hid (fun W => refUnder_any ⟨⟨t⟩⟩ ⟨⟨p⟩⟩ (by show t.length ≤ _; omega) (by show p.length ≤ _; omega) W)
  rw [show tl ⟨⟨p⟩⟩ = p from rfl] at HU1 HV
  rw [show tl ⟨⟨t⟩⟩ = t from rfl] at HU2 HV
  clear hM
  have q0 := x0.cell 0
  have q1 := x0.cell 1
  have q2 := x0.cell 2
  have q3 := x0.cell 3
  simp only [List.getElem?_toArray, List.getElem?_cons_zero, List.getElem?_cons_succ] at q0 q1 q2 q3
  rcases hu1 : userB p with _ | _
  · rw [hu1] at HU1
    obtain rfl : M = 23 := by rw [HM.out]; unfold checkX; rw [if_pos (.inl hu1)]
    go_enter Try.func35, Try.ntmps35
    go_wp2_with fail
    refine (HU1.out _).mono ?_
    rintro e w1 ⟨rfl, hb1⟩
    have x1 := x0.below hb1
    have hw1 := hw0.trans (hb1.mono hw0.size)
    clear q0 q1 q2 q3 hb1
    have q0 := x1.cell 0
    have q1 := x1.cell 1
    have q2 := x1.cell 2
    have q3 := x1.cell 3
    simp only [List.getElem?_toArray, List.getElem?_cons_zero, List.getElem?_cons_succ] at q0 q1 q2 q3
    go_wp2_with fail
    go_ret
    exact ⟨rfl, hw1⟩
  · rw [hu1] at HU1
    by_cases hk5 : k = 5
    · subst hk5
      rcases hu2 : userB t with _ | _
      · rw [hu2] at HU2
        obtain rfl : M = 23 := by rw [HM.out]; unfold checkX; rw [if_pos (.inr ⟨rfl, hu2⟩)]
        go_enter Try.func35, Try.ntmps35
        go_wp2_with fail
        refine (HU1.out _).mono ?_
        rintro e w1 ⟨rfl, hb1⟩
        have x1 := x0.below hb1
        have hw1 := hw0.trans (hb1.mono hw0.size)
        clear q0 q1 q2 q3 hb1
        have q0 := x1.cell 0
        have q1 := x1.cell 1
        have q2 := x1.cell 2
        have q3 := x1.cell 3
        simp only [List.getElem?_toArray, List.getElem?_cons_zero, List.getElem?_cons_succ] at q0 q1 q2 q3
        go_wp2_with fail
        refine (HU2.out _).mono ?_
        rintro e w2 ⟨rfl, hb2⟩
        have x2 := x1.below hb2
        have hw2 := hw1.trans (hb2.mono hw1.size)
        clear q0 q1 q2 q3 hb2
        have q0 := x2.cell 0
        have q1 := x2.cell 1
        have q2 := x2.cell 2
        have q3 := x2.cell 3
        simp only [List.getElem?_toArray, List.getElem?_cons_zero, List.getElem?_cons_succ] at q0 q1 q2 q3
        go_wp2_with fail
        go_ret
        exact ⟨rfl, hw2⟩
      · rw [hu2] at HU2
        by_cases htp : t = p
        · obtain rfl : M = 2 := by rw [HM.out]; unfold checkX; rw [if_neg (by simp [hu1, hu2]), if_pos (.inr (.inr ⟨rfl, .inl htp⟩))]
          subst htp
          have htb : (t == t) = true := by simp
          go_enter Try.func35, Try.ntmps35
          go_wp2_with fail
          refine (HU1.out _).mono ?_
          rintro e w1 ⟨rfl, hb1⟩
          have x1 := x0.below hb1
          have hw1 := hw0.trans (hb1.mono hw0.size)
          clear q0 q1 q2 q3 hb1
          have q0 := x1.cell 0
          have q1 := x1.cell 1
          have q2 := x1.cell 2
          have q3 := x1.cell 3
          simp only [List.getElem?_toArray, List.getElem?_cons_zero, List.getElem?_cons_succ] at q0 q1 q2 q3
          go_wp2_with fail
          refine (HU2.out _).mono ?_
          rintro e w2 ⟨rfl, hb2⟩
          have x2 := x1.below hb2
          have hw2 := hw1.trans (hb2.mono hw1.size)
          clear q0 q1 q2 q3 hb2
          have q0 := x2.cell 0
          have q1 := x2.cell 1
          have q2 := x2.cell 2
          have q3 := x2.cell 3
          simp only [List.getElem?_toArray, List.getElem?_cons_zero, List.getElem?_cons_succ] at q0 q1 q2 q3
          go_wp2_with fail
          go_ret
          exact ⟨rfl, hw2⟩
        · have htb : (t == p) = false := by simpa using htp
          rcases huv : underB t p with _ | _
          · rw [huv] at HV
            by_cases hn2 : 4096 < n
            · obtain rfl : M = 13 := by rw [HM.out]; unfold checkX; rw [if_neg (by simp [hu1, hu2]), if_neg (by simp [htp, huv]), if_pos hn2]
              have hn3 : (n : Int) > 4096 := by omega
              go_enter Try.func35, Try.ntmps35
              go_wp2_with fail
              refine (HU1.out _).mono ?_
              rintro e w1 ⟨rfl, hb1⟩
              have x1 := x0.below hb1
              have hw1 := hw0.trans (hb1.mono hw0.size)
              clear q0 q1 q2 q3 hb1
              have q0 := x1.cell 0
              have q1 := x1.cell 1
              have q2 := x1.cell 2
              have q3 := x1.cell 3
              simp only [List.getElem?_toArray, List.getElem?_cons_zero, List.getElem?_cons_succ] at q0 q1 q2 q3
              go_wp2_with fail
              refine (HU2.out _).mono ?_
              rintro e w2 ⟨rfl, hb2⟩
              have x2 := x1.below hb2
              have hw2 := hw1.trans (hb2.mono hw1.size)
              clear q0 q1 q2 q3 hb2
              have q0 := x2.cell 0
              have q1 := x2.cell 1
              have q2 := x2.cell 2
              have q3 := x2.cell 3
              simp only [List.getElem?_toArray, List.getElem?_cons_zero, List.getElem?_cons_succ] at q0 q1 q2 q3
              go_wp2_with fail
              refine (HV.out _).mono ?_
              rintro e w3 ⟨rfl, hb3⟩
              have x3 := x2.below hb3
              have hw3 := hw2.trans (hb3.mono hw2.size)
              clear q0 q1 q2 q3 hb3
              have q0 := x3.cell 0
              have q1 := x3.cell 1
              have q2 := x3.cell 2
              have q3 := x3.cell 3
              simp only [List.getElem?_toArray, List.getElem?_cons_zero, List.getElem?_cons_succ] at q0 q1 q2 q3
              go_wp2_with fail
              go_ret
              exact ⟨rfl, hw3⟩
            · obtain rfl : M = 0 := by rw [HM.out]; unfold checkX; rw [if_neg (by simp [hu1, hu2]), if_neg (by simp [htp, huv]), if_neg hn2]
              have hn3 : (n : Int) ≤ 4096 := by omega
              go_enter Try.func35, Try.ntmps35
              go_wp2_with fail
              refine (HU1.out _).mono ?_
              rintro e w1 ⟨rfl, hb1⟩
              have x1 := x0.below hb1
              have hw1 := hw0.trans (hb1.mono hw0.size)
              clear q0 q1 q2 q3 hb1
              have q0 := x1.cell 0
              have q1 := x1.cell 1
              have q2 := x1.cell 2
              have q3 := x1.cell 3
              simp only [List.getElem?_toArray, List.getElem?_cons_zero, List.getElem?_cons_succ] at q0 q1 q2 q3
              go_wp2_with fail
              refine (HU2.out _).mono ?_
              rintro e w2 ⟨rfl, hb2⟩
              have x2 := x1.below hb2
              have hw2 := hw1.trans (hb2.mono hw1.size)
              clear q0 q1 q2 q3 hb2
              have q0 := x2.cell 0
              have q1 := x2.cell 1
              have q2 := x2.cell 2
              have q3 := x2.cell 3
              simp only [List.getElem?_toArray, List.getElem?_cons_zero, List.getElem?_cons_succ] at q0 q1 q2 q3
              go_wp2_with fail
              refine (HV.out _).mono ?_
              rintro e w3 ⟨rfl, hb3⟩
              have x3 := x2.below hb3
              have hw3 := hw2.trans (hb3.mono hw2.size)
              clear q0 q1 q2 q3 hb3
              have q0 := x3.cell 0
              have q1 := x3.cell 1
              have q2 := x3.cell 2
              have q3 := x3.cell 3
              simp only [List.getElem?_toArray, List.getElem?_cons_zero, List.getElem?_cons_succ] at q0 q1 q2 q3
              go_wp2_with fail
              go_ret
              exact ⟨rfl, hw3⟩
          · rw [huv] at HV
            obtain rfl : M = 2 := by rw [HM.out]; unfold checkX; rw [if_neg (by simp [hu1, hu2]), if_pos (.inr (.inr ⟨rfl, .inr huv⟩))]
            go_enter Try.func35, Try.ntmps35
            go_wp2_with fail
            refine (HU1.out _).mono ?_
            rintro e w1 ⟨rfl, hb1⟩
            have x1 := x0.below hb1
            have hw1 := hw0.trans (hb1.mono hw0.size)
            clear q0 q1 q2 q3 hb1
            have q0 := x1.cell 0
            have q1 := x1.cell 1
            have q2 := x1.cell 2
            have q3 := x1.cell 3
            simp only [List.getElem?_toArray, List.getElem?_cons_zero, List.getElem?_cons_succ] at q0 q1 q2 q3
            go_wp2_with fail
            refine (HU2.out _).mono ?_
            rintro e w2 ⟨rfl, hb2⟩
            have x2 := x1.below hb2
            have hw2 := hw1.trans (hb2.mono hw1.size)
            clear q0 q1 q2 q3 hb2
            have q0 := x2.cell 0
            have q1 := x2.cell 1
            have q2 := x2.cell 2
            have q3 := x2.cell 3
            simp only [List.getElem?_toArray, List.getElem?_cons_zero, List.getElem?_cons_succ] at q0 q1 q2 q3
            go_wp2_with fail
            refine (HV.out _).mono ?_
            rintro e w3 ⟨rfl, hb3⟩
            have x3 := x2.below hb3
            have hw3 := hw2.trans (hb3.mono hw2.size)
            clear q0 q1 q2 q3 hb3
            have q0 := x3.cell 0
            have q1 := x3.cell 1
            have q2 := x3.cell 2
            have q3 := x3.cell 3
            simp only [List.getElem?_toArray, List.getElem?_cons_zero, List.getElem?_cons_succ] at q0 q1 q2 q3
            go_wp2_with fail
            go_ret
            exact ⟨rfl, hw3⟩
    · have hk5b : (k == 5) = false := by simpa using hk5
      by_cases hr : 1 ≤ k ∧ k ≤ 5
      · by_cases hn2 : 4096 < n
        · obtain rfl : M = 13 := by rw [HM.out]; unfold checkX; rw [if_neg (by simp [hu1, hk5]), if_neg (by simp [hk5]; omega), if_pos hn2]
          have hn3 : (n : Int) > 4096 := by omega
          obtain rfl | rfl | rfl | rfl : k = 1 ∨ k = 2 ∨ k = 3 ∨ k = 4 := by omega
          all_goals
            go_enter Try.func35, Try.ntmps35
            go_wp2_with fail
            refine (HU1.out _).mono ?_
            rintro e w1 ⟨rfl, hb1⟩
            have x1 := x0.below hb1
            have hw1 := hw0.trans (hb1.mono hw0.size)
            clear q0 q1 q2 q3 hb1
            have q0 := x1.cell 0
            have q1 := x1.cell 1
            have q2 := x1.cell 2
            have q3 := x1.cell 3
            simp only [List.getElem?_toArray, List.getElem?_cons_zero, List.getElem?_cons_succ] at q0 q1 q2 q3
            go_wp2_with fail
            go_ret
            exact ⟨rfl, hw1⟩
        · obtain rfl : M = 0 := by rw [HM.out]; unfold checkX; rw [if_neg (by simp [hu1, hk5]), if_neg (by simp [hk5]; omega), if_neg hn2]
          have hn3 : (n : Int) ≤ 4096 := by omega
          obtain rfl | rfl | rfl | rfl : k = 1 ∨ k = 2 ∨ k = 3 ∨ k = 4 := by omega
          all_goals
            go_enter Try.func35, Try.ntmps35
            go_wp2_with fail
            refine (HU1.out _).mono ?_
            rintro e w1 ⟨rfl, hb1⟩
            have x1 := x0.below hb1
            have hw1 := hw0.trans (hb1.mono hw0.size)
            clear q0 q1 q2 q3 hb1
            have q0 := x1.cell 0
            have q1 := x1.cell 1
            have q2 := x1.cell 2
            have q3 := x1.cell 3
            simp only [List.getElem?_toArray, List.getElem?_cons_zero, List.getElem?_cons_succ] at q0 q1 q2 q3
            go_wp2_with fail
            go_ret
            exact ⟨rfl, hw1⟩
      · obtain rfl : M = 2 := by rw [HM.out]; unfold checkX; rw [if_neg (by simp [hu1, hk5]), if_pos (by omega)]
        have h1 : (k == 1) = false := by simp; omega
        have h2 : (k == 2) = false := by simp; omega
        have h3 : (k == 3) = false := by simp; omega
        have h4 : (k == 4) = false := by simp; omega
        by_cases hk : k < 1
        · clear h1
          go_enter Try.func35, Try.ntmps35
          go_wp2_with fail
          refine (HU1.out _).mono ?_
          rintro e w1 ⟨rfl, hb1⟩
          have x1 := x0.below hb1
          have hw1 := hw0.trans (hb1.mono hw0.size)
          clear q0 q1 q2 q3 hb1
          have q0 := x1.cell 0
          have q1 := x1.cell 1
          have q2 := x1.cell 2
          have q3 := x1.cell 3
          simp only [List.getElem?_toArray, List.getElem?_cons_zero, List.getElem?_cons_succ] at q0 q1 q2 q3
          go_wp2_with fail
          go_ret
          exact ⟨rfl, hw1⟩
        · have hkg : 5 < k := by omega
          have hkl : ¬ k < 1 := by omega
          go_enter Try.func35, Try.ntmps35
          go_wp2_with fail
          refine (HU1.out _).mono ?_
          rintro e w1 ⟨rfl, hb1⟩
          have x1 := x0.below hb1
          have hw1 := hw0.trans (hb1.mono hw0.size)
          clear q0 q1 q2 q3 hb1
          have q0 := x1.cell 0
          have q1 := x1.cell 1
          have q2 := x1.cell 2
          have q3 := x1.cell 3
          simp only [List.getElem?_toArray, List.getElem?_cons_zero, List.getElem?_cons_succ] at q0 q1 q2 q3
          go_wp2_with fail
          go_ret
          exact ⟨rfl, hw1⟩

end Go.Proofs.Ytedbjkmgfcnkeaa

/- edit.Items. -/
namespace Go.Proofs.Ytedbjkmgfcnkeaa
open Go.RowKit Go.Maps

/-- rows of the call's own do not lie in a tree's own blocks -/
theorem TreeAt.own {w : World} {tb : Nat} {mo : Option Nat} {K : List (List UInt8 × LV)} (t : TreeAt w tb mo K) {base n size : Nat} {e : TypeId} {v : Value} {xs : List Value} (h : w.ownsRow base e size v n xs) (he : e ≠ 58) : ∀ g, v.ownBlock = some g → ¬ (g = tb ∨ mo = some g) := by
  rintro g hg (rfl | hm)
  · exact t.blk.own_ne h he hg
  · rcases t.map with ⟨e0, _⟩ | ⟨mb, e0, hm2⟩
    · rw [e0] at hm; cases hm
    · rw [e0] at hm
      injection hm with hm
      subst hm
      rcases h.2 with ⟨rfl, _⟩ | ⟨g', cap, cur, rfl, _, hh, _⟩
      · simp [Value.ownBlock] at hg
      · have e1 : g' = mb := by simpa [Value.ownBlock] using hg
        subst e1
        exact hm2.not_cells hh
theorem ItsOwn.set {w w' : World} {base : Nat} {A : Option Addr} {c : Nat} {M K : List (List UInt8 × LV)} {tb : Nat} {mo : Option Nat} (h : ItsOwn w base A c M) (t : TreeAt w tb mo K) (k : Fr (fun g => g = tb ∨ mo = some g) w w') : ItsOwn w' base A c M :=
  ⟨own_fr h.row k (t.own h.row (by decide)), fun x hx => own_fr (h.byt x hx) k (t.own (h.byt x hx) (by decide))⟩
/-- items of the call's own, as a row, by what they tell -/
theorem ItsOwn.itsS {w : World} {base : Nat} {A : Option Addr} {c : Nat} {M : List (List UInt8 × LV)} {T : List (List UInt8 × LP)} (h : ItsOwn w base A c M) (hM : Hid (plainL M = T)) (hs : ∀ x ∈ T, x.1.length ≤ 1048576 ∧ x.2.2.length ≤ 4096) (hl : T.length ≤ 300) : Its w A M := by
  refine h.its (by rw [← plain_len, hM.out]; omega) (fun x hx => ?_)
  have := hs (x.1, x.2.p) (by rw [← hM.out]; exact List.mem_map.2 ⟨x, hx, rfl⟩)
  have h2 : x.2.x.l.length ≤ 4096 := this.2
  exact ⟨this.1, by omega⟩

set_option maxRecDepth 100000 in
set_option maxHeartbeats 4000000 in
theorem items_any (tb : Nat) (mo : Option Nat) (L : List (List UInt8 × LV)) (k : Int) (p t : List UInt8) (dA : Option Addr) (dc : Nat) (dl : List UInt8) (Z : Nat → Prop) (w : World) (h : TreeAt w tb mo L) (hp : p.length ≤ 1048576) (ht : t.length ≤ 1048576) (hy : By w Z dA dl) (hdl : dl.length ≤ 140737488355328) :
    Calls Try.prog 36 #[.pointer (some ⟨tb, 0, none⟩), .agg #[.int .i64 k, .string ⟨⟨p⟩⟩, .string ⟨⟨t⟩⟩, .slice dA dl.length dc]] w fun e w' => ∃ (A : Option Addr) (c : Nat) (M : List (List UInt8 × LV)), e = .returned (.tuple #[.slice A M.length c, .int .i64 (itemsS (plainL L) k p t dl).2]) ∧ Hid (plainL M = (itemsS (plainL L) k p t dl).1) ∧ ItsOwn w' w.heap.size A c M ∧ Below w.heap.size w w' := by
  have hok := h.plain
  obtain ⟨T, hT⟩ : ∃ T, T = plainL L := ⟨_, rfl⟩
  have hTT : Hid (plainL L = T) := Lib.hid hT.symm
  rw [← hT] at hok ⊢
  obtain ⟨R, hR⟩ : ∃ R, R = itemsS T k p t dl := ⟨_, rfl⟩
  rw [← hR]
  have HR := Lib.hid hR
  have HT := Lib.hid h
  have HY := Lib.hid hy
  have HOK := Lib.hid hok
  have hw0 : Below w.heap.size w (w.alloc (.cells #[.int .i64 k, .string ⟨⟨p⟩⟩, .string ⟨⟨t⟩⟩, .slice dA dl.length dc] 61)) := (by repeat (first | exact Below.refl _ _ | refine Below.alloc ?_ (by simp) _ | refine Below.setCell ?_ (by simp) _ | refine Below.drew ?_))
  have x0 := Blk.new w 61 #[.int .i64 k, .string ⟨⟨p⟩⟩, .string ⟨⟨t⟩⟩, .slice dA dl.length dc]
  have q0 := x0.cell 0
  have q1 := x0.cell 1
  have q2 := x0.cell 2
  have q3 := x0.cell 3
  simp only [List.getElem?_toArray, List.getElem?_cons_zero, List.getElem?_cons_succ] at q0 q1 q2 q3
  obtain ⟨ck, hck⟩ : ∃ ck, ck = checkX k p t dl.length := ⟨_, rfl⟩
  have HCK := Lib.hid (fun W => editCheck_any k p t dA dl.length dc W (by omega) (by omega) hdl)
  rw [← hck] at HCK
  have HK := Lib.hid hck
  clear h hT hR hok hy hck
  go_enter Try.func36, Try.ntmps36
  go_wp2_with fail
  refine (HCK.out _).mono ?_
  rintro e w1 ⟨rfl, hb1⟩
  have x1 := x0.below hb1
  have hw1 := hw0.trans (hb1.mono hw0.size)
  clear q0 q1 q2 q3 hb1 x0 hw0 HCK
  have q0 := x1.cell 0
  have q1 := x1.cell 1
  have q2 := x1.cell 2
  have q3 := x1.cell 3
  simp only [List.getElem?_toArray, List.getElem?_cons_zero, List.getElem?_cons_succ] at q0 q1 q2 q3
  by_cases hc0 : ck = 0
  · have hk15 : 1 ≤ k ∧ k ≤ 5 ∧ dl.length ≤ 4096 := by
      have := HK.out
      rw [hc0] at this
      unfold checkX at this
      split at this
      · cases this
      · split at this
        · cases this
        · rename_i h2
          split at this
          · cases this
          · omega
    have HR1 : Hid (R = if (planS T k p t dl).2 ≠ 0 then ([], (planS T k p t dl).2) else if (tryS T (planS T k p t dl).1).2 ≠ 0 then ([], (tryS T (planS T k p t dl).1).2) else ((planS T k p t dl).1, 0)) := Lib.hid (by
      rw [HR.out]; unfold itemsS; rw [← HK.out, if_neg (by simpa using hc0)])
    subst hc0
    have HPL := Lib.hid (plan_any tb mo L k p t dA dc dl Z w1 (HT.out.below hw1) hp ht (HY.out.below hw1) hk15.2.2 ⟨hk15.1, hk15.2.1⟩)
    rw [hTT.out] at HPL
    obtain ⟨S, hS⟩ : ∃ S, S = planS T k p t dl := ⟨_, rfl⟩
    rw [← hS] at HPL HR1
    have hSl := plan_small HOK.out k p t dl hp hk15.2.2
    rw [← hS] at hSl
    clear HR HK hS hk15
    go_wp2_with fail
    refine HPL.out.mono ?_
    rintro e w2 ⟨A, c, M, rfl, hM, hO, hb2⟩
    have hw2 := hw1.trans (hb2.mono hw1.size)
    have HO := Lib.hid (hO.base (base' := w.heap.size) hw1.size)
    have hMl : M.length ≤ 300 := by rw [← plain_len, hM.out]; exact hSl.1
    have HSM : Hid (∀ x ∈ M, x.1.length ≤ 1048576 ∧ x.2.x.l.length ≤ 140737488355328) := Lib.hid (fun x hx => by
      have := hSl.2 (x.1, x.2.p) (by rw [← hM.out]; exact List.mem_map.2 ⟨x, hx, rfl⟩)
      have h2 : x.2.x.l.length ≤ 4096 := this.2
      exact ⟨this.1, by omega⟩)
    clear hO hb2 HPL q0 q1 q2 q3 x1 hSl
    by_cases hs0 : S.2 = 0
    · have HR2 : Hid (R = if (tryS T S.1).2 ≠ 0 then ([], (tryS T S.1).2) else (S.1, 0)) := Lib.hid (by rw [HR1.out, if_neg (by simpa using hs0)])
      rw [hs0]
      rw [← hM.out] at HR2
      clear HR1 hs0 hM
      go_wp2_with fail
      refine (treeClone_any tb mo L w2 (HT.out.below hw2)).mono ?_
      rintro e w3 ⟨cb, mo', rfl, hcb, hmc, hC, hb3⟩
      have hw3 := hw2.trans (hb3.mono hw2.size)
      have HO3 := Lib.hid (HO.out.below hb3)
      have hcw : w.heap.size ≤ cb := Nat.le_trans hw2.size hcb
      have hmw : ∀ m, mo' = some m → w.heap.size ≤ m := fun m e => Nat.le_trans hw2.size (hmc m e)
      have HC := Lib.hid hC
      clear hC HO hb3 hmc hcb
      go_wp2_with fail
      go_loopw [31] (fun iv wr => ∃ (i : Nat) (m2 : Option Nat) (K : List (List UInt8 × LV)), i ≤ M.length ∧ iv = .int .i64 (i : Int) ∧ TreeAt wr cb m2 K ∧ Hid (tryS T (plainL (M.take i)) = (plainL K, 0)) ∧ (∀ m, m2 = some m → w.heap.size ≤ m) ∧ ItsOwn wr w.heap.size A c M ∧ Below w.heap.size w wr) (fun iv _ => M.length - (intOf iv).toNat)
      case atStart => exact ⟨0, mo', L, Nat.zero_le _, rfl, HC.out, by show _ = _; rw [hTT.out]; rfl, hmw, HO3.out, hw3⟩
      case round =>
        obtain ⟨i, m2, K, hi, rfl, hTK, hn, hm2, hOr, hb⟩ := hrel
        by_cases hlt : i < M.length
        · obtain ⟨b, off, hA, hbb, c0, c1, c2⟩ := item_at (Rd.of_own hOr.row (fun _ _ _ => trivial)) hlt
          have hxo := hOr.byt _ (List.getElem_mem hlt)
          have hps : tryS T (plainL (M.take (i + 1))) = (setS (plainL K) M[i].1 M[i].2.p, mayS (plainL K) M[i].1 M[i].2.p) := by rw [plain_snoc M i hlt, try_snoc, hn.out]; rfl
          have hst : mayS (plainL K) M[i].1 M[i].2.p ≠ 0 → tryS T (plainL M) = tryS T (plainL (M.take (i + 1))) := fun h0 => by
            have e : plainL (M.take (i + 1)) = (plainL M).take (i + 1) := by simp [plainL]
            rw [e]
            refine try_stop _ _ _ ?_
            rw [← e, hps]
            exact h0
          have hxl := HSM.out _ (List.getElem_mem hlt)
          subst hA
          obtain ⟨x, hx⟩ : ∃ x, x = M[i] := ⟨_, rfl⟩
          rw [← hx] at c0 c1 c2 hxo hxl hps hst
          simp only [stv] at c0
          have hba : Below wr.heap.size wr (wr.alloc (.cells #[.string ⟨⟨x.1⟩⟩, .int .i64 x.2.k, .slice x.2.x.A x.2.x.l.length x.2.x.c] 30)) := (Below.refl _ _).alloc (Nat.le_refl _) _
          have xb := Blk.new wr 30 #[.string ⟨⟨x.1⟩⟩, .int .i64 x.2.k, .slice x.2.x.A x.2.x.l.length x.2.x.c]
          have HT2 := Lib.hid (hTK.below hba)
          have HX1 := Lib.hid ((OwB.below hxo hba).rd)
          have HO2 := Lib.hid (hOr.below hba)
          have hw4 := hb.trans (hba.mono hb.size)
          obtain ⟨hx1, hx2⟩ := hxl
          have q0 := xb.cell 0
          have q1 := xb.cell 1
          have q2 := xb.cell 2
          simp only [List.getElem?_toArray, List.getElem?_cons_zero, List.getElem?_cons_succ] at q0 q1 q2
          have HPS := Lib.hid hps
          have HST := Lib.hid hst
          obtain ⟨ms, hms⟩ : ∃ ms, ms = mayS (plainL K) x.1 (x.2.k, x.2.x.l) := ⟨_, rfl⟩
          have HMS := Lib.hid hms
          clear hTK hxo hx hps hst hn hms hOr HC HO3
          go_wp2_with fail
          refine (treeSet_any sortsT cb m2 K x.1 x.2.k x.2.x.A x.2.x.c x.2.x.l _ _ HT2.out HX1.out hx1 hx2).mono ?_
          rintro e w5 ⟨rfl, hto⟩
          rw [← HMS.out]
          obtain ⟨⟨m3, K3, hT3, hL3, hmo3⟩, hfr⟩ := hto
          have hw5 : Below w.heap.size w w5 := hw4.trans (hfr.below hw4.size (fun g hg e => by
            rcases e with e | e
            · omega
            · have := hm2 _ e; omega))
          have HO5 := Lib.hid (HO2.out.set HT2.out hfr)
          have hm4 : ∀ m, m3 = some m → w.heap.size ≤ m := fun m e => by
            rcases hmo3 m e with e | e
            · exact hm2 m e
            · have := hw4.size; omega
          by_cases hm0 : ms = 0
          · have HN2 : Hid (tryS T (plainL (M.take (i + 1))) = (plainL K3, 0)) := Lib.hid (by rw [HPS.out]; exact Prod.ext hL3.out.symm (HMS.out.symm.trans hm0))
            have HT3 := Lib.hid hT3
            subst hm0
            clear hT3 hfr hL3 HT2 HX1 xb hmo3 q0 q1 q2 HPS HST HMS c0 c1 c2 HO2
            go_wp2_with fail
            go_roundw
            case rel => exact ⟨i + 1, m3, K3, hlt, by go_num, HT3.out, HN2, hm4, HO5.out, hw5⟩
            case measure => simp [intOf]; omega
          · have hmb : (ms != 0) = true := by simpa using hm0
            have hT2 : (tryS T (plainL M)).2 = ms := by
              rw [HST.out (by rw [show x.2.p = (x.2.k, x.2.x.l) from rfl, ← HMS.out]; exact hm0), HPS.out, HMS.out]; rfl
            obtain rfl : R = ([], ms) := by rw [HR2.out, hT2, if_pos hm0]
            clear hT3 hfr hL3 HT2 HX1 xb hmo3 q0 q1 q2 HPS HST HMS c0 c1 c2 HO2 hT2 HR2 HO5
            go_wp2_with fail
            go_ret2
            exact ⟨none, 0, [], rfl, rfl, ⟨World.ownsRow_nil _ _ _ _, by simp⟩, hw5⟩
        · have e : i = M.length := by omega
          subst e
          rw [List.take_length] at hn
          obtain rfl : R = (plainL M, 0) := by rw [HR2.out, hn.out, if_neg (by simp)]
          clear HR2 hn
          go_wp2_with fail
          go_ret2
          exact ⟨A, c, M, rfl, rfl, hOr, hb⟩
    · have hsb : (S.2 != 0) = true := by simpa using hs0
      obtain rfl : R = ([], S.2) := by rw [HR1.out, if_pos hs0]
      clear HR1 HO hM
      go_wp2_with fail
      go_ret2
      exact ⟨none, 0, [], rfl, rfl, ⟨World.ownsRow_nil _ _ _ _, by simp⟩, hw2⟩
  · have hcb : (ck != 0) = true := by simpa using hc0
    obtain rfl : R = ([], ck) := by rw [HR.out]; unfold itemsS; rw [← HK.out, if_pos hc0]
    clear HR HK
    go_wp2_with fail
    go_ret2
    exact ⟨none, 0, [], rfl, rfl, ⟨World.ownsRow_nil _ _ _ _, by simp⟩, hw1⟩

end Go.Proofs.Ytedbjkmgfcnkeaa
