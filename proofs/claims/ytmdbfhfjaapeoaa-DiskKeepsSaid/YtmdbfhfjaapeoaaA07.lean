/- tenderref11: Crash. -/
import Derived.Test.YtmdbfhfjaapeoaaA06
import Derived.IntWalk
import Derived.Lib.BitFns

namespace Go.Proofs.Ytmdbfhfjaapeoaa
open Go.RowKit Go.Maps

theorem bytes_slice_head (A : Option Addr) (n c m : Nat) (hm : m ≤ c) (W : World) : (Instr.slice 23 (.slice A n c) none (some (.int .i64 (m : Int))) none).run Try.prog W = .ok (.slice A m c) W := by
  rw [run_slice_h W 23 A n c (by kernel_rfl) .i64 (m : Int) (by omega) (by omega)]
  rw [show (sizeOf (Try.prog.elem 23)).run Try.prog W = .ok 1 W by kernel_rfl]
  simp only [Result.andThen, sliced, Int.toNat_natCast]
  rcases A with _ | a
  · simp
  · simp [Addr.add]
theorem flat_set2 (L : List (Int × FV)) (i : Nat) (y : Int × FV) (hi : i < L.length) (he : L[i].1 = y.1) : (L.set i y).flatMap fileC = ((L.flatMap fileC).set (i * 3 + 1) (.slice y.2.x.A y.2.x.l.length y.2.x.c)).set (i * 3 + 2) (.int .i64 y.2.s) := by
  induction L generalizing i with
  | nil => cases hi
  | cons x l ih =>
    cases i with
    | zero =>
      simp only [List.getElem_cons_zero] at he
      simp [fileC, he]
    | succ i =>
      have := ih i (by simpa using hi) (by simpa using he)
      rw [List.set_cons_succ, List.flatMap_cons, this, List.flatMap_cons]
      simp [fileC, Nat.succ_mul, Nat.add_assoc]
theorem mix_get {M L : List (Int × FV)} {i : Nat} (hM : M.length = i) (hi : i < L.length) : ∃ h : i < (M ++ L.drop i).length, (M ++ L.drop i)[i] = L[i] := by
  refine ⟨by simp; omega, ?_⟩
  rw [List.getElem_append_right (by omega), List.getElem_drop]
  simp [hM]
theorem mix_set {M L : List (Int × FV)} {i : Nat} (hM : M.length = i) (hi : i < L.length) (y : Int × FV) : (M ++ L.drop i).set i y = (M ++ [y]) ++ L.drop (i + 1) := by
  rw [List.set_append, if_neg (by omega), List.drop_eq_getElem_cons hi, hM, Nat.sub_self, List.set_cons_zero]
  simp
theorem file_used_mem {D : DP} {x : Int × FP} (h : x ∈ D.L) : x.2.1.length ≤ usedS D.L := by
  have : ∀ (l : List (Int × FP)), x ∈ l → x.2.1.length ≤ usedS l := by
    intro l
    induction l with
    | nil => intro h; cases h
    | cons y l ih =>
      intro h
      simp only [usedS, List.map_cons, List.sum_cons]
      rcases List.mem_cons.1 h with rfl | h
      · omega
      · have := ih h
        unfold usedS at this
        omega
  exact this _ h
theorem many_cases {K : List (Int × Int)} {n m : Int} {f : FV} (hm : m = (getZ K n).getD f.s) (h0 : f.s ≤ (f.x.l.length : Int)) : manyS K n f.p = if m < f.s then f.s else if (f.x.l.length : Int) < m then (f.x.l.length : Int) else m := by
  unfold manyS
  show (match getZ K n with | none => f.s | some k => min (max f.s k) (f.x.l.length : Int)) = _
  rcases hg : getZ K n with _ | k
  · rw [hg] at hm
    simp only [Option.getD_none] at hm
    subst hm
    rw [if_neg (by omega), if_neg (by omega)]
  · rw [hg] at hm
    simp only [Option.getD_some] at hm
    subst hm
    show min (max f.s m) (f.x.l.length : Int) = _
    rw [Int.min_def, Int.max_def]
    repeat' split
    all_goals omega
/-- what the rounds of Crash keep -/
structure CrRel (w8 : World) (base : Nat) (A8 : Option Addr) (c8 : Nat) (L M : List (Int × FV)) (K : List (Int × Int)) (i : Nat) (wr : World) : Prop where
  len : M.length = i
  plain : Hid (plainD M = (plainD (L.take i)).map (crashF K))
  row : Row wr base 84 3 A8 L.length c8 ((M ++ L.drop i).flatMap fileC)
  ok : ∀ x ∈ M, x.2.x.ok wr (fun b => ablk A8 ≠ some b)
  fr : Fr (fun x => ablk A8 = some x) w8 wr
theorem CrRel.below {w8 wr w' : World} {base : Nat} {A8 : Option Addr} {c8 : Nat} {L M : List (Int × FV)} {K : List (Int × Int)} {i : Nat} (h : CrRel w8 base A8 c8 L M K i wr) (k : Below wr.heap.size wr w') : CrRel w8 base A8 c8 L M K i w' :=
  ⟨h.len, h.plain, h.row.below k, fun x hx => (h.ok x hx).below k, h.fr.then_below k⟩
theorem CrRel.cells {w8 wr : World} {base g : Nat} {c8 : Nat} {L M : List (Int × FV)} {K : List (Int × Int)} {i : Nat} (h : CrRel w8 base (some ⟨g, 0, none⟩) c8 L M K i wr) (hi : i < L.length) {n : Int} {f : FV} (e : L[i] = (n, f)) :
    wr.cell? ⟨g, i * 3, none⟩ = some (.int .i64 n) ∧ wr.cell? ⟨g, i * 3 + 1, none⟩ = some (.slice f.x.A f.x.l.length f.x.c) ∧ wr.cell? ⟨g, i * 3 + 2, none⟩ = some (.int .i64 f.s) := by
  obtain ⟨h1, h2⟩ := mix_get h.len hi
  have hg : ∀ j, j < 3 → ((M ++ L.drop i).flatMap fileC)[i * 3 + j]? = (fileC (n, f))[j]? := fun j hj => by
    rw [flat_get (k := 3) fileC_len _ i j h1 hj, h2, e]
  have b0 := h.row.cell (hg 0 (by omega))
  have b1 := h.row.cell (hg 1 (by omega))
  have b2 := h.row.cell (hg 2 (by omega))
  simp only [Nat.zero_add, Nat.add_zero] at b0 b1 b2
  exact ⟨b0, b1, b2⟩
/-- a round's end -/
theorem CrRel.step {w8 wr wC : World} {base g base2 : Nat} {c8 : Nat} {L M : List (Int × FV)} {K : List (Int × Int)} {i q : Nat} (h : CrRel w8 base (some ⟨g, 0, none⟩) c8 L M K i wr) (hi : i < L.length) {n : Int} {f : FV} (e : L[i] = (n, f)) (hb : Below wr.heap.size wr wC)
    {A2 : Option Addr} {c2 : Nat} {L2 : List UInt8} (own : OwB wC base2 (.slice A2 L2.length c2) L2) (hb2 : g < base2) (hL2 : L2 = f.x.l.take q) (hq : (q : Int) = manyS K n f.p) :
    CrRel w8 base (some ⟨g, 0, none⟩) c8 L (M ++ [(n, ⟨⟨A2, c2, L2⟩, (q : Int)⟩)]) K (i + 1) ((wC.setCell ⟨g, i * 3 + 1, none⟩ (.slice A2 L2.length c2)).setCell ⟨g, i * 3 + 2, none⟩ (.int .i64 (q : Int))) := by
  have hC := h.below hb
  have k : Fr (fun x => ablk (some (⟨g, 0, none⟩ : Addr)) = some x) wC ((wC.setCell ⟨g, i * 3 + 1, none⟩ (.slice A2 L2.length c2)).setCell ⟨g, i * 3 + 2, none⟩ (.int .i64 (q : Int))) := ((Fr.refl (fun x => ablk (some (⟨g, 0, none⟩ : Addr)) = some x) wC).setAt g _ rfl _).setAt g _ rfl _
  have k2 : Fr (fun x => x = g) wC ((wC.setCell ⟨g, i * 3 + 1, none⟩ (.slice A2 L2.length c2)).setCell ⟨g, i * 3 + 2, none⟩ (.int .i64 (q : Int))) := ((Fr.refl (fun x => x = g) wC).setAt g _ rfl _).setAt g _ rfl _
  obtain ⟨h1, h2⟩ := mix_get h.len hi
  refine ⟨by simp [h.len], ?_, ?_, ?_, hC.fr.trans k (fun _ _ e => e)⟩
  · show _ = _
    have h3 : plainD (M ++ [(n, (⟨⟨A2, c2, L2⟩, (q : Int)⟩ : FV))]) = plainD M ++ [(n, (L2, (q : Int)))] := by simp [plainD, FV.p]
    have h4 : plainD (L.take (i + 1)) = plainD (L.take i) ++ [(n, f.p)] := by rw [List.take_succ_eq_append_getElem hi, e]; simp [plainD]
    rw [h3, h4, List.map_append, h.plain.out]
    congr 1
    simp only [List.map_cons, List.map_nil, crashF]
    rw [← hq, hL2, Int.toNat_natCast]
    rfl
  · have hr := (hC.row.put (i * 3 + 1) (.slice A2 L2.length c2)).put (i * 3 + 2) (.int .i64 (q : Int))
    have := flat_set2 (M ++ L.drop i) i (n, ⟨⟨A2, c2, L2⟩, (q : Int)⟩) h1 (by rw [h2, e])
    rw [mix_set h.len hi] at this
    rw [this]
    simpa [Nat.zero_add] using hr
  · intro x hx
    rcases List.mem_append.1 hx with hx | hx
    · have := (hC.ok x hx)
      exact ⟨this.1.fr k (fun b _ hz => hz), this.2⟩
    · rw [List.mem_singleton.1 hx]
      have r := Row.of_own own
      refine ⟨(own.rd.fr k2 (fun b hb hz e => ?_)).mono (fun b _ hz e => ?_), r.room, r.cap⟩
      · have := (r.lt b hz).1; omega
      · have := (r.lt b hz).1
        have e2 : g = b := by simpa [ablk] using e
        omega

set_option maxRecDepth 100000 in
set_option maxHeartbeats 4000000 in
theorem refCrash_any (v : Value) (D : DP) (k : Nat) (B : Option Addr) (d : Nat) (K : List (Int × Int)) (Z : Nat → Prop) (w : World) (h : RefAt w v D) (hok : DOk D k) (hK : Kps w Z B K) :
    Calls Try.prog 36 #[v, .slice B K.length d] w fun e w' => ∃ v', e = .returned v' ∧ RefAt w' v' (crashS D K) ∧ Below w.heap.size w w' := by
  obtain ⟨A, c, L, rfl, hF, hc, hp⟩ := h.at_
  have hw2 : Below w.heap.size w ((w.alloc (.cells #[.slice A L.length c, .int .i64 D.last, .int .i64 D.room, .int .i64 D.left] 38)).alloc (.cells #[.slice none 0 0, .int .i64 0, .int .i64 0, .int .i64 0] 38)) := ((Below.refl _ _).alloc (Nat.le_refl _) _).alloc (by simp) _
  have x0 : Blk ((w.alloc (.cells #[.slice A L.length c, .int .i64 D.last, .int .i64 D.room, .int .i64 D.left] 38)).alloc (.cells #[.slice none 0 0, .int .i64 0, .int .i64 0, .int .i64 0] 38)) w.heap.size 38 #[.slice A L.length c, .int .i64 D.last, .int .i64 D.room, .int .i64 D.left] := (Blk.new w 38 #[.slice A L.length c, .int .i64 D.last, .int .i64 D.room, .int .i64 D.left]).below ((Below.refl _ _).alloc (Nat.le_refl _) _)
  have x1 : Blk ((w.alloc (.cells #[.slice A L.length c, .int .i64 D.last, .int .i64 D.room, .int .i64 D.left] 38)).alloc (.cells #[.slice none 0 0, .int .i64 0, .int .i64 0, .int .i64 0] 38)) (w.heap.size + 1) 38 #[.slice none 0 0, .int .i64 0, .int .i64 0, .int .i64 0] := by
    have := Blk.new (w.alloc (.cells #[.slice A L.length c, .int .i64 D.last, .int .i64 D.room, .int .i64 D.left] 38)) 38 #[.slice none 0 0, .int .i64 0, .int .i64 0, .int .i64 0]
    rwa [show (w.alloc (.cells #[.slice A L.length c, .int .i64 D.last, .int .i64 D.room, .int .i64 D.left] 38)).heap.size = w.heap.size + 1 by simp] at this
  have HF := Lib.hid hF
  have HP := Lib.hid hp.out
  have HO := Lib.hid hok
  have HK := Lib.hid hK
  have hkl := hK.len
  have hll := hF.len
  clear h hF hc hp hok hK
  go_enter Try.func36, Try.ntmps36
  go_upto_region 1 with (fail)
  generalize ((w.alloc (.cells #[.slice A L.length c, .int .i64 D.last, .int .i64 D.room, .int .i64 D.left] 38)).alloc (.cells #[.slice none 0 0, .int .i64 0, .int .i64 0, .int .i64 0] 38)) = w2 at *
  have p0 := x0.cell 0
  have p1 := x0.cell 1
  have p2 := x0.cell 2
  have p3 := x0.cell 3
  simp only [List.getElem?_toArray, List.getElem?_cons_zero, List.getElem?_cons_succ] at p0 p1 p2 p3
  have ft := fun o => x0.frozen o
  have l12 := x1.lt
  have k3 : Fr (fun x => x = w.heap.size) w2 (w2.setCell ⟨w.heap.size, 3, none⟩ (.int .i64 (-1))) := (Fr.refl (fun x => x = w.heap.size) w2).setAt w.heap.size 3 rfl _
  have hw3 : Below w.heap.size w (w2.setCell ⟨w.heap.size, 3, none⟩ (.int .i64 (-1))) := hw2.trans (k3.below (B := w.heap.size) hw2.size (fun k hk e => by omega))
  have y0 := x0.set_ 3 (.int .i64 (-1))
  simp only [List.setIfInBounds_toArray, List.set_cons_zero, List.set_cons_succ] at y0
  have y1 := x1.fr k3 (by omega)
  go_upto_region 2 with (fail)
  generalize w2.setCell ⟨w.heap.size, 3, none⟩ (.int .i64 (-1)) = w3 at *
  clear p0 p1 p2 p3 ft k3 x0 x1 hw2
  have l13 := y1.lt
  have hba : Below w3.heap.size w3 (w3.alloc (.cells #[] 84)) := (Below.refl _ _).alloc (Nat.le_refl _) _
  have HO1 : Hid (OwF (w3.alloc (.cells #[] 84)) w3.heap.size (some ⟨w3.heap.size, 0, none⟩) 0 []) := Lib.hid (World.ownsRow_lit (base := w3.heap.size) (e := 84) (size := 3) w3 #[] 0 (Nat.le_refl _) (by simp [maxLen]) (by simp))
  have HR := Lib.hid (((HF.out.below hw3).below hba).rd)
  have q0 := (y0.below hba).cell 0
  simp only [List.getElem?_toArray, List.getElem?_cons_zero] at q0
  go_upto_region 3 with (at_builtin; refine wpList_append_files rfl (.tmp 10) (.tmp 12) rfl rfl HO1.out rfl HR.out (by simp; omega) (by simp) ?_; intro A8 c8 w8 ho8 hb8 hk8)
  rw [List.nil_append] at ho8
  have hb38 := hba.trans hb8
  replace y0 := y0.below hb38
  replace y1 := y1.below hb38
  have hw8 := hw3.trans (hb38.mono hw3.size)
  have HOW := Lib.hid ho8
  have HCR0 : Hid (CrRel w8 w3.heap.size A8 c8 L [] K 0 w8) := Lib.hid ⟨rfl, by show _ = _; simp [plainD], by simpa using ho8.row, by simp, Fr.refl _ _⟩
  have hfs : ∀ g, ablk A8 = some g → w3.heap.size ≤ g ∧ g < w8.heap.size := fun g hg => ho8.row.lt g hg
  clear ho8 hb8 hk8 hba HO1 HR q0 hb38
  have hsure : ∀ x ∈ L, 0 ≤ x.2.s ∧ x.2.s ≤ (x.2.x.l.length : Int) := fun x hx => by
    have := HO.out.sure (x.1, x.2.p) (by rw [← HP.out]; exact List.mem_map.2 ⟨x, hx, rfl⟩)
    exact this
  have hused : ∀ x ∈ L, x.2.x.l.length ≤ 1048576 := fun x hx => by
    have h1 := HO.out.room
    have h2 := file_used_mem (D := D) (x := (x.1, x.2.p)) (by rw [← HP.out]; exact List.mem_map.2 ⟨x, hx, rfl⟩)
    have h3 : ((x.1, x.2.p) : Int × FP).2.1.length = x.2.x.l.length := rfl
    omega
  have HSU := Lib.hid hsure
  have HUS := Lib.hid hused
  clear hsure hused
  go_wp2_with fail
  go_loopw [6] (fun iv wr => ∃ i : Nat, i ≤ L.length ∧ iv = .int .i64 (i : Int) ∧ ∃ M, CrRel w8 w3.heap.size A8 c8 L M K i wr) (fun iv _ => L.length - (intOf iv).toNat)
  case atStart => exact ⟨0, Nat.zero_le _, rfl, [], HCR0.out⟩
  case round =>
    obtain ⟨i, hi, rfl, M, hcr⟩ := hrel
    rename World => wo
    have hwr : Below w.heap.size w wo := hw8.trans (hcr.fr.below (B := w.heap.size) hw8.size (fun k hk e => by have := hfs k e; have := hw3.size; omega))
    by_cases hlt : i < L.length
    · obtain ⟨g, rfl, hg1, hg2⟩ := own_off HOW.out (by omega)
      obtain ⟨n, f, hLi⟩ : ∃ n f, L[i] = (n, f) := ⟨_, _, rfl⟩
      obtain ⟨c0, c1, c2⟩ := hcr.cells hlt hLi
      have hgb : g < wo.heap.size := Nat.lt_of_lt_of_le hg2 hcr.fr.size
      have HFX : Hid (f.x.ok w (fun _ => True)) := Lib.hid (by have := HF.out.ok _ (List.getElem_mem hlt); rw [hLi] at this; exact this)
      have hs := HSU.out _ (List.getElem_mem hlt)
      have hfl := HUS.out _ (List.getElem_mem hlt)
      rw [hLi] at hs hfl
      dsimp only at hs hfl
      have hfc := HFX.out.2.1
      have HCR := Lib.hid hcr
      have HKr := Lib.hid (HK.out.below hwr)
      have hk1 := IntWalk.wrap64_in ((K.length : Int) - 1) ⟨by omega, by omega⟩
      clear hcr HCR0
      go_wp2_with fail
      go_loopw [7, 8] (fun mv kv wk => ∃ j : Nat, ∃ m : Int, j ≤ K.length ∧ kv = .int .i64 ((j : Int) - 1) ∧ mv = .int .i64 m ∧ Hid (m = (getZ (K.drop j) n).getD f.s) ∧ Below wo.heap.size wo wk) (fun _ kv _ => (intOf kv + 1).toNat)
      case atStart => exact ⟨K.length, f.s, Nat.le_refl _, rfl, rfl, by show _ = _; rw [List.drop_length]; rfl, Below.refl _ _⟩
      case round =>
        obtain ⟨j, m, hj, rfl, rfl, hG, hbk⟩ := hrel
        rename World => wk
        have hwk := hwr.trans (hbk.mono hwr.size)
        have hgk : g < wk.heap.size := Nat.lt_of_lt_of_le hgb hbk.size
        have ck0 := cellAt hbk hgb c0
        have ck1 := cellAt hbk hgb c1
        have ck2 := cellAt hbk hgb c2
        by_cases hj0 : 0 < j
        · obtain ⟨j, rfl⟩ : ∃ j', j = j' + 1 := ⟨j - 1, by omega⟩
          obtain ⟨kb, ko, rfl, hkb, hk0, hk2⟩ := (HKr.out.below hbk).at_ (i := j) (by omega)
          have hd : K.drop j = K[j] :: K.drop (j + 1) := List.drop_eq_getElem_cons (by omega)
          have hgz : (getZ (K.drop j) n).getD f.s = if K[j].1 = n then K[j].2 else m := by
            rw [hd, getZ_consK, hG.out]
            split <;> rfl
          rw [show ((j + 1 : Nat) : Int) - 1 = (j : Int) by omega]
          have hjl : j < K.length := by omega
          have hwj := IntWalk.wrap64_in ((j : Int) - 1) ⟨by omega, by omega⟩
          clear hd hG c0 c1 c2 ck1 ck2
          generalize K[j].1 = y1 at *
          generalize K[j].2 = y2 at *
          by_cases he : y1 = n
          · rw [if_pos he] at hgz
            subst he
            have HN : Hid (y2 = (getZ (K.drop j) y1).getD f.s) := Lib.hid hgz.symm
            clear hgz
            go_wp2_with fail
            refine wp_region_b 11 (by kernel_rfl) (by kernel_rfl) ?_
            simp only [List.take_succ_cons, List.take_zero, List.drop_succ_cons, List.drop_zero]
            refine lb_move _ (by kernel_rfl) rfl ⟨_, (by ((try simp [go_sem]); (try rfl); done)), _, (by (simp only [Act.put, List.setIfInBounds_toArray, List.set_cons_zero, List.set_cons_succ]; rfl)), ?_⟩
            refine lb_move _ (by kernel_rfl) rfl ⟨_, (by ((try simp [go_sem]); (try rfl); done)), _, (by (simp only [Act.put, List.setIfInBounds_toArray, List.set_cons_zero, List.set_cons_succ]; rfl)), ?_⟩
            refine lb_val (by kernel_rfl) ⟨_, (by (intro w' hC; clear hC; (try go_simp); (try with_reducible rfl); done)), _, (by (simp only [Act.put, List.setIfInBounds_toArray, List.set_cons_zero, List.set_cons_succ]; rfl)), ?_⟩
            refine lb_val (by kernel_rfl) ⟨_, (by (intro w' hC; clear hC; (try go_simp); (try with_reducible rfl); done)), _, (by (simp only [Act.put, List.setIfInBounds_toArray, List.set_cons_zero, List.set_cons_succ]; rfl)), ?_⟩
            refine lb_val (by kernel_rfl) ⟨_, (by (intro w' hC; (have k0 := cellAt hC hkb hk0); clear hC; (try go_simp); (try with_reducible rfl); done)), _, (by (simp only [Act.put, List.setIfInBounds_toArray, List.set_cons_zero, List.set_cons_succ]; rfl)), ?_⟩
            refine lb_move _ (by kernel_rfl) rfl ⟨_, (by ((try simp [go_sem]); (try rfl); done)), _, (by (simp only [Act.put, List.setIfInBounds_toArray, List.set_cons_zero, List.set_cons_succ]; rfl)), ?_⟩
            refine lb_move _ (by kernel_rfl) rfl ⟨_, (by ((try simp [go_sem]); (try rfl); done)), _, (by (simp only [Act.put, List.setIfInBounds_toArray, List.set_cons_zero, List.set_cons_succ]; rfl)), ?_⟩
            refine lb_val (by kernel_rfl) ⟨_, (by (intro w' hC; clear hC; (try go_simp); (try with_reducible rfl); done)), _, (by (simp only [Act.put, List.setIfInBounds_toArray, List.set_cons_zero, List.set_cons_succ]; rfl)), ?_⟩
            refine lb_val (by kernel_rfl) ⟨_, (by (intro w' hC; clear hC; (try go_simp); (try with_reducible rfl); done)), _, (by (simp only [Act.put, List.setIfInBounds_toArray, List.set_cons_zero, List.set_cons_succ]; rfl)), ?_⟩
            refine lb_val (by kernel_rfl) ⟨_, (by (intro w' hC; (have r0 := cellAt hC hgk ck0); clear hC; (try go_simp); (try with_reducible rfl); done)), _, (by (simp only [Act.put, List.setIfInBounds_toArray, List.set_cons_zero, List.set_cons_succ]; rfl)), ?_⟩
            refine lb_val (by kernel_rfl) ⟨_, (by (intro w' hC; clear hC; (try go_simp); (try with_reducible rfl); done)), _, (by (simp only [Act.put, List.setIfInBounds_toArray, List.set_cons_zero, List.set_cons_succ]; rfl)), ?_⟩
            refine .nil ?_
            intro wq hbq
            have hk2q := cellAt hbq hkb hk2
            go_wp2_with fail
            go_roundw
            case rel => exact ⟨j, y2, by omega, by go_num, rfl, HN.out, hbk.trans (hbq.mono hbk.size)⟩
            case measure => simp [intOf]
          · rw [if_neg he] at hgz
            have heb : (y1 == n) = false := by simpa using he
            have HN : Hid (m = (getZ (K.drop j) n).getD f.s) := Lib.hid hgz.symm
            clear hgz he hk2
            go_wp2_with fail
            refine wp_region_b 11 (by kernel_rfl) (by kernel_rfl) ?_
            simp only [List.take_succ_cons, List.take_zero, List.drop_succ_cons, List.drop_zero]
            refine lb_move _ (by kernel_rfl) rfl ⟨_, (by ((try simp [go_sem]); (try rfl); done)), _, (by (simp only [Act.put, List.setIfInBounds_toArray, List.set_cons_zero, List.set_cons_succ]; rfl)), ?_⟩
            refine lb_move _ (by kernel_rfl) rfl ⟨_, (by ((try simp [go_sem]); (try rfl); done)), _, (by (simp only [Act.put, List.setIfInBounds_toArray, List.set_cons_zero, List.set_cons_succ]; rfl)), ?_⟩
            refine lb_val (by kernel_rfl) ⟨_, (by (intro w' hC; clear hC; (try go_simp); (try with_reducible rfl); done)), _, (by (simp only [Act.put, List.setIfInBounds_toArray, List.set_cons_zero, List.set_cons_succ]; rfl)), ?_⟩
            refine lb_val (by kernel_rfl) ⟨_, (by (intro w' hC; clear hC; (try go_simp); (try with_reducible rfl); done)), _, (by (simp only [Act.put, List.setIfInBounds_toArray, List.set_cons_zero, List.set_cons_succ]; rfl)), ?_⟩
            refine lb_val (by kernel_rfl) ⟨_, (by (intro w' hC; (have k0 := cellAt hC hkb hk0); clear hC; (try go_simp); (try with_reducible rfl); done)), _, (by (simp only [Act.put, List.setIfInBounds_toArray, List.set_cons_zero, List.set_cons_succ]; rfl)), ?_⟩
            refine lb_move _ (by kernel_rfl) rfl ⟨_, (by ((try simp [go_sem]); (try rfl); done)), _, (by (simp only [Act.put, List.setIfInBounds_toArray, List.set_cons_zero, List.set_cons_succ]; rfl)), ?_⟩
            refine lb_move _ (by kernel_rfl) rfl ⟨_, (by ((try simp [go_sem]); (try rfl); done)), _, (by (simp only [Act.put, List.setIfInBounds_toArray, List.set_cons_zero, List.set_cons_succ]; rfl)), ?_⟩
            refine lb_val (by kernel_rfl) ⟨_, (by (intro w' hC; clear hC; (try go_simp); (try with_reducible rfl); done)), _, (by (simp only [Act.put, List.setIfInBounds_toArray, List.set_cons_zero, List.set_cons_succ]; rfl)), ?_⟩
            refine lb_val (by kernel_rfl) ⟨_, (by (intro w' hC; clear hC; (try go_simp); (try with_reducible rfl); done)), _, (by (simp only [Act.put, List.setIfInBounds_toArray, List.set_cons_zero, List.set_cons_succ]; rfl)), ?_⟩
            refine lb_val (by kernel_rfl) ⟨_, (by (intro w' hC; (have r0 := cellAt hC hgk ck0); clear hC; (try go_simp); (try with_reducible rfl); done)), _, (by (simp only [Act.put, List.setIfInBounds_toArray, List.set_cons_zero, List.set_cons_succ]; rfl)), ?_⟩
            refine lb_val (by kernel_rfl) ⟨_, (by (intro w' hC; clear hC; (try go_simp); (try with_reducible rfl); done)), _, (by (simp only [Act.put, List.setIfInBounds_toArray, List.set_cons_zero, List.set_cons_succ]; rfl)), ?_⟩
            refine .nil ?_
            intro wq hbq
            go_wp2_with fail
            go_roundw
            case rel => exact ⟨j, m, by omega, by go_num, rfl, HN.out, hbk.trans (hbq.mono hbk.size)⟩
            case measure => simp [intOf]
        · obtain rfl : j = 0 := by omega
          have hmc := many_cases hG.out hs.2
          rw [List.drop_zero] at hmc
          clear hj0 hj hk1 hG c0 c1 c2
          by_cases h1 : m < f.s
          · rw [if_pos h1] at hmc
            obtain ⟨q, hqs⟩ : ∃ q : Nat, f.s = (q : Int) := ⟨f.s.toNat, by omega⟩
            rw [hqs] at ck2 hmc h1
            have hql : q ≤ f.x.l.length := by omega
            have hq : Hid ((q : Int) = manyS K n f.p) := Lib.hid hmc.symm
            have hd1 : decide (m < (q : Int)) = true := decide_eq_true h1
            have hd2 : decide ((f.x.l.length : Int) < (q : Int)) = false := decide_eq_false (by omega)
            clear hmc h1 hs hqs
            have HSL := Lib.hid (fun W => bytes_slice_head f.x.A f.x.l.length f.x.c q (by omega) W)
            have hsl := HSL.out
            have hba : Below wk.heap.size wk (wk.alloc (.cells #[] 5)) := (Below.refl _ _).alloc (Nat.le_refl _) _
            have HOWN : Hid (OwB (wk.alloc (.cells #[] 5)) wk.heap.size (.slice (some ⟨wk.heap.size, 0, none⟩) 0 0) []) := Lib.hid (World.ownsRow_lit (base := wk.heap.size) (e := 5) (size := 1) wk #[] 0 (Nat.le_refl _) (by simp [maxLen]) (by simp))
            have HTL := Lib.hid (show (f.x.l.take q).length = q from by rw [List.length_take, Nat.min_eq_left hql])
            have HR1 : Hid (By (wk.alloc (.cells #[] 5)) (fun _ => True) f.x.A (f.x.l.take q)) := Lib.hid ((cut_ok (m := q) HFX.out hql).below (hwk.trans (hba.mono hwk.size))).1
            have a1 := cellAt hba hgk ck1
            go_wp2_with (at_builtin; refine wpList_append_by (m := f.x.l.take q) rfl (.tmp 76) (.tmp 83) rfl rfl HOWN.out (by rw [HTL.out]; rfl) HR1.out (by rw [HTL.out]; simp; omega) (by simp) ?_; intro L2 A2 c2 wC HL2 own2 hg2 hx2; rw [List.nil_append] at HL2; (have hb2 := hba.trans (grown_belowD hg2 (by simp) (fun g e => (HOWN.out.lt g e).1))); (have e1 := cellAt hb2 hgk ck1); (have e2 := cellAt hb2 hgk ck2); (have CR2 := Lib.hid (HCR.out.below (hbk.trans (hb2.mono hbk.size)))); (have fz := fun o => CR2.out.row.frozen o); clear hg2 hx2 a1)
            go_roundw
            case rel =>
              have hbr := hbk.trans (hb2.mono hbk.size)
              exact ⟨i + 1, hlt, by go_num, _, HCR.out.step hlt hLi hbr own2 (by omega) HL2.out hq.out⟩
            case measure => simp [intOf]; omega
          · rw [if_neg h1] at hmc
            have hd1 : decide (m < f.s) = false := decide_eq_false h1
            by_cases h2 : (f.x.l.length : Int) < m
            · rw [if_pos h2] at hmc
              have hd2 : decide ((f.x.l.length : Int) < m) = true := decide_eq_true h2
              obtain ⟨q, hql0⟩ : ∃ q : Nat, f.x.l.length = q := ⟨_, rfl⟩
              have hql : q ≤ f.x.l.length := by omega
              have hq : Hid ((q : Int) = manyS K n f.p) := Lib.hid (by rw [← hql0]; exact hmc.symm)
              subst hql0
              clear hmc h1 h2 hs
              have HSL := Lib.hid (fun W => bytes_slice_head f.x.A f.x.l.length f.x.c f.x.l.length (by omega) W)
              have hsl := HSL.out
              have hba : Below wk.heap.size wk (wk.alloc (.cells #[] 5)) := (Below.refl _ _).alloc (Nat.le_refl _) _
              have HOWN : Hid (OwB (wk.alloc (.cells #[] 5)) wk.heap.size (.slice (some ⟨wk.heap.size, 0, none⟩) 0 0) []) := Lib.hid (World.ownsRow_lit (base := wk.heap.size) (e := 5) (size := 1) wk #[] 0 (Nat.le_refl _) (by simp [maxLen]) (by simp))
              have HTL := Lib.hid (show (f.x.l.take f.x.l.length).length = f.x.l.length from by rw [List.length_take, Nat.min_eq_left hql])
              have HR1 : Hid (By (wk.alloc (.cells #[] 5)) (fun _ => True) f.x.A (f.x.l.take f.x.l.length)) := Lib.hid ((cut_ok (m := f.x.l.length) HFX.out hql).below (hwk.trans (hba.mono hwk.size))).1
              have a1 := cellAt hba hgk ck1
              go_wp2_with (at_builtin; refine wpList_append_by (m := f.x.l.take f.x.l.length) rfl (.tmp 76) (.tmp 83) rfl rfl HOWN.out (by rw [HTL.out]; rfl) HR1.out (by rw [HTL.out]; simp; omega) (by simp) ?_; intro L2 A2 c2 wC HL2 own2 hg2 hx2; rw [List.nil_append] at HL2; (have hb2 := hba.trans (grown_belowD hg2 (by simp) (fun g e => (HOWN.out.lt g e).1))); (have e1 := cellAt hb2 hgk ck1); (have e2 := cellAt hb2 hgk ck2); (have CR2 := Lib.hid (HCR.out.below (hbk.trans (hb2.mono hbk.size)))); (have fz := fun o => CR2.out.row.frozen o); clear hg2 hx2 a1)
              go_roundw
              case rel =>
                have hbr := hbk.trans (hb2.mono hbk.size)
                exact ⟨i + 1, hlt, by go_num, _, HCR.out.step hlt hLi hbr own2 (by omega) HL2.out hq.out⟩
              case measure => simp [intOf]; omega
            · rw [if_neg h2] at hmc
              obtain ⟨q, rfl⟩ : ∃ q : Nat, m = (q : Int) := ⟨m.toNat, by omega⟩
              have hd2 : decide ((f.x.l.length : Int) < (q : Int)) = false := decide_eq_false h2
              have hql : q ≤ f.x.l.length := by omega
              have hq : Hid ((q : Int) = manyS K n f.p) := Lib.hid hmc.symm
              clear hmc h1 h2 hs
              have HSL := Lib.hid (fun W => bytes_slice_head f.x.A f.x.l.length f.x.c q (by omega) W)
              have hsl := HSL.out
              have hba : Below wk.heap.size wk (wk.alloc (.cells #[] 5)) := (Below.refl _ _).alloc (Nat.le_refl _) _
              have HOWN : Hid (OwB (wk.alloc (.cells #[] 5)) wk.heap.size (.slice (some ⟨wk.heap.size, 0, none⟩) 0 0) []) := Lib.hid (World.ownsRow_lit (base := wk.heap.size) (e := 5) (size := 1) wk #[] 0 (Nat.le_refl _) (by simp [maxLen]) (by simp))
              have HTL := Lib.hid (show (f.x.l.take q).length = q from by rw [List.length_take, Nat.min_eq_left hql])
              have HR1 : Hid (By (wk.alloc (.cells #[] 5)) (fun _ => True) f.x.A (f.x.l.take q)) := Lib.hid ((cut_ok (m := q) HFX.out hql).below (hwk.trans (hba.mono hwk.size))).1
              have a1 := cellAt hba hgk ck1
              go_wp2_with (at_builtin; refine wpList_append_by (m := f.x.l.take q) rfl (.tmp 76) (.tmp 83) rfl rfl HOWN.out (by rw [HTL.out]; rfl) HR1.out (by rw [HTL.out]; simp; omega) (by simp) ?_; intro L2 A2 c2 wC HL2 own2 hg2 hx2; rw [List.nil_append] at HL2; (have hb2 := hba.trans (grown_belowD hg2 (by simp) (fun g e => (HOWN.out.lt g e).1))); (have e1 := cellAt hb2 hgk ck1); (have e2 := cellAt hb2 hgk ck2); (have CR2 := Lib.hid (HCR.out.below (hbk.trans (hb2.mono hbk.size)))); (have fz := fun o => CR2.out.row.frozen o); clear hg2 hx2 a1)
              go_roundw
              case rel =>
                have hbr := hbk.trans (hb2.mono hbk.size)
                exact ⟨i + 1, hlt, by go_num, _, HCR.out.step hlt hLi hbr own2 (by omega) HL2.out hq.out⟩
              case measure => simp [intOf]; omega
    · have e : i = L.length := by omega
      subst e
      have hml : M.length = L.length := hcr.len
      have hpl : plainD M = D.L.map (crashF K) := by have := hcr.plain.out; rw [List.take_length, HP.out] at this; exact this
      have HPL := Lib.hid hpl
      have hrow : Row wo w3.heap.size 84 3 A8 M.length c8 (M.flatMap fileC) := by have := hcr.row; rw [List.drop_length, List.append_nil, ← hml] at this; exact this
      have hrc := hrow.room
      have HFM := Lib.hid (row_fls hrow (fun x hx => (hcr.ok x hx).mono (fun _ _ _ => trivial)) (by omega))
      have z0 := y0.fr hcr.fr (fun e => by have := (hfs _ e).1; omega)
      have z1 := y1.fr hcr.fr (fun e => by have := (hfs _ e).1; omega)
      have zl := z1.lt
      clear hrow hpl hcr HCR0
      have p0 := z0.cell 0
      have p1 := z0.cell 1
      have p2 := z0.cell 2
      have p3 := z0.cell 3
      simp only [List.getElem?_toArray, List.getElem?_cons_zero, List.getElem?_cons_succ] at p0 p1 p2 p3
      have ft := fun o => z0.frozen o
      have kE : Fr (fun x => x = w.heap.size) wo (wo.setCell ⟨w.heap.size, 0, none⟩ (.slice A8 L.length c8)) := (Fr.refl (fun x => x = w.heap.size) wo).setAt w.heap.size 0 rfl _
      have hwE : Below w.heap.size w (wo.setCell ⟨w.heap.size, 0, none⟩ (.slice A8 L.length c8)) := hwr.trans (kE.below (B := w.heap.size) hwr.size (fun k hk e => by omega))
      have HFE := Lib.hid (HFM.out.fr_disk z0 kE)
      have t0 := z0.set_ 0 (.slice A8 L.length c8)
      simp only [List.setIfInBounds_toArray, List.set_cons_zero] at t0
      have t1 := z1.fr kE (by omega)
      go_upto_region 19 with (fail)
      generalize wo.setCell ⟨w.heap.size, 0, none⟩ (.slice A8 L.length c8) = wE at *
      clear p0 p1 p2 p3 ft kE z0 z1 HFM
      have p0 := t0.cell 0
      have p1 := t0.cell 1
      have p2 := t0.cell 2
      have p3 := t0.cell 3
      simp only [List.getElem?_toArray, List.getElem?_cons_zero, List.getElem?_cons_succ] at p0 p1 p2 p3
      have r0 := t1.cell 0
      have r1 := t1.cell 1
      have r2 := t1.cell 2
      have r3 := t1.cell 3
      simp only [List.getElem?_toArray, List.getElem?_cons_zero, List.getElem?_cons_succ] at r0 r1 r2 r3
      have fr := fun o => t1.frozen o
      go_wp2_with fail
      have kR : Fr (fun x => x = w.heap.size + 1) wE ((((wE.setCell ⟨w.heap.size + 1, 0, none⟩ (.slice A8 L.length c8)).setCell ⟨w.heap.size + 1, 1, none⟩ (.int .i64 D.last)).setCell ⟨w.heap.size + 1, 2, none⟩ (.int .i64 D.room)).setCell ⟨w.heap.size + 1, 3, none⟩ (.int .i64 (-1))) := (((((Fr.refl (fun x => x = w.heap.size + 1) wE).setAt (w.heap.size + 1) _ rfl _).setAt (w.heap.size + 1) _ rfl _).setAt (w.heap.size + 1) _ rfl _).setAt (w.heap.size + 1) _ rfl _)
      have yR := ((((t1.set_ 0 (.slice A8 L.length c8)).set_ 1 (.int .i64 D.last)).set_ 2 (.int .i64 D.room)).set_ 3 (.int .i64 (-1)))
      simp only [List.setIfInBounds_toArray, List.set_cons_zero, List.set_cons_succ] at yR
      have hwR : Below w.heap.size w ((((wE.setCell ⟨w.heap.size + 1, 0, none⟩ (.slice A8 L.length c8)).setCell ⟨w.heap.size + 1, 1, none⟩ (.int .i64 D.last)).setCell ⟨w.heap.size + 1, 2, none⟩ (.int .i64 D.room)).setCell ⟨w.heap.size + 1, 3, none⟩ (.int .i64 (-1))) := hwE.trans (kR.below (B := w.heap.size) hwE.size (fun k hk e => by omega))
      generalize ((((wE.setCell ⟨w.heap.size + 1, 0, none⟩ (.slice A8 L.length c8)).setCell ⟨w.heap.size + 1, 1, none⟩ (.int .i64 D.last)).setCell ⟨w.heap.size + 1, 2, none⟩ (.int .i64 D.room)).setCell ⟨w.heap.size + 1, 3, none⟩ (.int .i64 (-1))) = wR at *
      have s0 := yR.cell 0
      have s1 := yR.cell 1
      have s2 := yR.cell 2
      have s3 := yR.cell 3
      simp only [List.getElem?_toArray, List.getElem?_cons_zero, List.getElem?_cons_succ] at s0 s1 s2 s3
      refine bodyPost_ret (v := .agg #[.slice A8 L.length c8, .int .i64 D.last, .int .i64 D.room, .int .i64 (-1)]) (by simp [results, Try.results36, go_sem, s0, s1, s2, s3]) rfl ?_
      exact ⟨refV A8 M.length c8 D.last D.room (-1), (by rw [hml]), ⟨A8, c8, M, rfl, HFE.out.fr_disk t1 kR, hrc, HPL⟩, hwR⟩

end Go.Proofs.Ytmdbfhfjaapeoaa

/- tenderlaw11.Op as values; Light. -/
namespace Go.Proofs.Ytmdbfhfjaapeoaa
open Go.RowKit

/-- a call -/
structure OpD where
  kind : Int
  file : Int
  n : Int
  x : BV
  kA : Option Addr
  kc : Nat
  K : List (Int × Int)
def OpD.cells (o : OpD) : List Value := [.int .i64 o.kind, .int .i64 o.file, .int .i64 o.n, .slice o.x.A o.x.l.length o.x.c, .slice o.kA o.K.length o.kc]
structure OpD.ok (w : World) (Z : Nat → Prop) (o : OpD) : Prop where
  k : -9223372036854775808 ≤ o.kind ∧ o.kind < 9223372036854775808
  f : -9223372036854775808 ≤ o.file ∧ o.file < 9223372036854775808
  n : -9223372036854775808 ≤ o.n ∧ o.n < 9223372036854775808
  x : o.x.ok w Z
  len : o.x.l.length ≤ 140737488355328
  kr : Rd w Z 2 o.kA o.K.length (o.K.flatMap keepC)
  kl : o.K.length ≤ 140737488355328
theorem OpD.ok.fr {w w' : World} {Z S : Nat → Prop} {o : OpD} (h : o.ok w Z) (k : Fr S w w') (hs : ∀ b, b < w.heap.size → Z b → ¬ S b) : o.ok w' Z := ⟨h.k, h.f, h.n, h.x.fr k hs, h.len, h.kr.fr k hs, h.kl⟩
theorem OpD.ok.below {w w' : World} {Z : Nat → Prop} {o : OpD} (h : o.ok w Z) (k : Below w.heap.size w w') : o.ok w' Z := h.fr (Fr.of_below k (fun _ => False)) (fun _ _ _ h => h)
theorem OpD.ok.mono {w : World} {Z Z' : Nat → Prop} {o : OpD} (h : o.ok w Z) (hz : ∀ b, b < w.heap.size → Z b → Z' b) : o.ok w Z' := ⟨h.k, h.f, h.n, h.x.mono hz, h.len, h.kr.mono hz, h.kl⟩
theorem OpD.ok.kps {w : World} {Z : Nat → Prop} {o : OpD} (h : o.ok w Z) (hk : o.K.length ≤ 1000000) : Kps w Z o.kA o.K := ⟨h.kr, hk⟩
/-- a slice of them -/
structure OpsD (w : World) (Z : Nat → Prop) (A : Option Addr) (l : List OpD) : Prop where
  rd : Rd w Z 5 A l.length (l.flatMap OpD.cells)
  ok : ∀ o ∈ l, o.ok w Z
  len : l.length ≤ 4398046511104
theorem OpsD.fr {w w' : World} {Z S : Nat → Prop} {A : Option Addr} {l : List OpD} (h : OpsD w Z A l) (k : Fr S w w') (hs : ∀ b, b < w.heap.size → Z b → ¬ S b) : OpsD w' Z A l :=
  ⟨h.rd.fr k hs, fun o ho => (h.ok o ho).fr k hs, h.len⟩
theorem OpsD.below {w w' : World} {Z : Nat → Prop} {A : Option Addr} {l : List OpD} (h : OpsD w Z A l) (k : Below w.heap.size w w') : OpsD w' Z A l := h.fr (Fr.of_below k (fun _ => False)) (fun _ _ _ h => h)
theorem OpsD.at_ {w : World} {Z : Nat → Prop} {A : Option Addr} {l : List OpD} {i : Nat} (h : OpsD w Z A l) (hi : i < l.length) :
    ∃ b off, A = some ⟨b, off, none⟩ ∧ Z b ∧ b < w.heap.size ∧ w.cell? ⟨b, off + i * 5, none⟩ = some (.int .i64 l[i].kind) ∧ w.cell? ⟨b, off + i * 5 + 1, none⟩ = some (.int .i64 l[i].file) ∧
      w.cell? ⟨b, off + i * 5 + 2, none⟩ = some (.int .i64 l[i].n) ∧ w.cell? ⟨b, off + i * 5 + 3, none⟩ = some (.slice l[i].x.A l[i].x.l.length l[i].x.c) ∧ w.cell? ⟨b, off + i * 5 + 4, none⟩ = some (.slice l[i].kA l[i].K.length l[i].kc) := by
  obtain ⟨b, off, hA, hz, hb, hc⟩ := h.rd.2 (by omega)
  have hg : ∀ j, j < 5 → (l.flatMap OpD.cells)[i * 5 + j]? = (OpD.cells l[i])[j]? := fun j hj => flat_get (k := 5) (fun _ => rfl) l i j hi hj
  refine ⟨b, off, hA, hz, hb, ?_, ?_, ?_, ?_, ?_⟩
  · exact hc _ _ (hg 0 (by omega))
  · rw [Nat.add_assoc]; exact hc _ _ (hg 1 (by omega))
  · rw [Nat.add_assoc]; exact hc _ _ (hg 2 (by omega))
  · rw [Nat.add_assoc]; exact hc _ _ (hg 3 (by omega))
  · rw [Nat.add_assoc]; exact hc _ _ (hg 4 (by omega))
def OpD.sz (o : OpD) : Nat := o.x.l.length + o.K.length
def lensD (l : List OpD) : Nat := (l.map OpD.sz).sum
def lightD (l : List OpD) : Bool := decide (l.length ≤ 200) && decide (lensD l ≤ 20000)
theorem lensD_take (l : List OpD) (i : Nat) (hi : i < l.length) : lensD (l.take (i + 1)) = lensD (l.take i) + l[i].sz := by
  unfold lensD
  rw [List.take_succ_eq_append_getElem hi, List.map_append, List.sum_append]
  simp
theorem lensD_le (K : Nat) : ∀ (l : List OpD), (∀ o ∈ l, o.sz ≤ K) → lensD l ≤ l.length * K
  | [], _ => by simp [lensD]
  | o :: l, h => by
    have h1 := h o (by simp)
    have h2 := lensD_le K l (fun o ho => h o (by simp [ho]))
    simp only [lensD, List.map_cons, List.sum_cons, List.length_cons, Nat.add_mul] at h2 ⊢
    omega
theorem lensD_take_le (K : Nat) (l : List OpD) (i : Nat) (h : ∀ o ∈ l, o.sz ≤ K) : lensD (l.take i) ≤ i * K := by
  have h1 := lensD_le K (l.take i) (fun o ho => h o (List.mem_of_mem_take ho))
  have h2 : (l.take i).length ≤ i := List.length_take_le _ _
  have h3 : (l.take i).length * K ≤ i * K := Nat.mul_le_mul_right _ h2
  omega
theorem lensD_mem {l : List OpD} {o : OpD} (h : o ∈ l) : o.sz ≤ lensD l := by
  induction l with
  | nil => cases h
  | cons y l ih =>
    simp only [lensD, List.map_cons, List.sum_cons]
    rcases List.mem_cons.1 h with rfl | h
    · omega
    · have := ih h
      unfold lensD at this
      omega
theorem lightD_len {l : List OpD} (h : lightD l = true) : l.length ≤ 200 ∧ lensD l ≤ 20000 ∧ ∀ o ∈ l, o.x.l.length ≤ 20000 ∧ o.K.length ≤ 20000 := by
  unfold lightD at h
  simp only [Bool.and_eq_true, decide_eq_true_eq] at h
  refine ⟨h.1, h.2, fun o ho => ?_⟩
  have := lensD_mem ho
  unfold OpD.sz at this
  omega
def SeenD (l : List OpD) (i : Nat) (s : Int) : Prop := i ≤ 200 → s = (lensD (l.take i) : Int)
theorem szD_le {w : World} {Z : Nat → Prop} {o : OpD} (h : o.ok w Z) : o.sz ≤ 281474976710656 := by
  have h1 := h.len
  have h2 := h.kl
  unfold OpD.sz
  omega
theorem seenD_step {l : List OpD} {i : Nat} {s : Int} (hs : SeenD l i s) (hi : i < l.length) (h : ∀ o ∈ l, o.sz ≤ 281474976710656) : SeenD l (i + 1) (wrap64 (s + (l[i].sz : Int))) := by
  intro hi2
  have e := hs (by omega)
  have h1 := lensD_take_le 281474976710656 l (i + 1) h
  have h2 := lensD_take l i hi
  have h3 : (i + 1) * 281474976710656 ≤ 201 * 281474976710656 := Nat.mul_le_mul_right _ (by omega)
  rw [h2] at h1 ⊢
  rw [e, IntWalk.wrap64_in _ ⟨by omega, by omega⟩]
  omega

set_option maxRecDepth 100000 in
set_option maxHeartbeats 400000 in
theorem light11_any (A : Option Addr) (c : Nat) (l : List OpD) (Z : Nat → Prop) (w : World) (h : OpsD w Z A l) :
    Calls Try.prog 6 #[.slice A l.length c] w fun e w' => e = .returned (.bool (lightD l)) ∧ Below w.heap.size w w' := by
  have hlen := h.len
  go_enter Try.func6, Try.ntmps6
  go_wp2_with fail
  go_loopw [3, 8] (fun sv iv wr => ∃ (i : Nat) (s : Int), i ≤ l.length ∧ iv = .int .i64 (i : Int) ∧ sv = .int .i64 s ∧ SeenD l i s ∧ Below w.heap.size w wr) (fun _ iv _ => l.length - (intOf iv).toNat)
  case atStart => exact ⟨0, 0, Nat.zero_le _, rfl, rfl, by intro _; simp [lensD], Below.refl _ _⟩
  case round =>
    obtain ⟨i, s, hi, rfl, rfl, hs, hb⟩ := hrel
    by_cases hlt : i < l.length
    · obtain ⟨b, off, rfl, hz, hbb, hc0, hc1, hc2, hc3, hc4⟩ := (h.below hb).at_ hlt
      have hsz := hb.size
      have hok := h.ok _ (List.getElem_mem hlt)
      have hst := Lib.hid (seenD_step hs hlt (fun o ho => szD_le (h.ok o ho)))
      generalize l[i] = o at *
      obtain ⟨kind, file, n, ⟨xA, xc, xl⟩, kA, kc, K⟩ := o
      obtain ⟨_, _, _, _, h1, _, h2⟩ := hok
      dsimp only at h1 h2
      have hw1 := IntWalk.wrap64_in ((xl.length : Int) + (K.length : Int)) ⟨by omega, by omega⟩
      clear hs
      go_wp2_with fail
      go_roundw
      case rel => exact ⟨i + 1, _, hlt, by go_num, rfl, by have := hst.out; unfold OpD.sz at this; push_cast at this; first | exact this | (simpa [hw1] using this), (hb.alloc hsz _)⟩
      case measure => simp [intOf]; omega
    · have e : i = l.length := by omega
      subst e
      by_cases h2 : l.length ≤ 200
      · have hss := hs (by omega)
        rw [List.take_length] at hss
        subst hss
        go_wp2
        all_goals
          go_ret
          exact ⟨ret_b (by unfold lightD; rw [Bool.eq_iff_iff]; simp; omega), hb⟩
      · go_wp2
        all_goals
          go_ret
          exact ⟨ret_b (by unfold lightD; rw [Bool.eq_iff_iff]; simp; omega), hb⟩
end Go.Proofs.Ytmdbfhfjaapeoaa

/- The bytes of numbers and texts, as plain lists. -/
namespace Go.Proofs.Ytmdbfhfjaapeoaa
open Go.RowKit

def dg : Nat → Nat → List UInt8 → List UInt8
  | 0, _, acc => acc
  | f + 1, n, acc => if n = 0 then acc else dg f (n / 256) (UInt8.ofNat (n % 256) :: acc)
def digs (n : Nat) : List UInt8 := dg 8 n []
def numB (n : Nat) : List UInt8 := UInt8.ofNat (digs n).length :: digs n
def textB (l : List UInt8) : List UInt8 := numB l.length ++ l

theorem bv_ofNat {m : Nat} (h : m < 256) : bv (UInt8.ofNat m) = .int .u8 (m : Int) := by
  unfold bv
  rw [UInt8.toNat_ofNat']
  rw [Nat.mod_eq_of_lt h]

theorem dg_zero (f : Nat) (acc : List UInt8) : dg f 0 acc = acc := by cases f <;> simp [dg]
theorem dg_len : ∀ (f n : Nat) (acc : List UInt8), (dg f n acc).length ≤ f + acc.length
  | 0, _, acc => by simp [dg]
  | f + 1, n, acc => by
    unfold dg
    split
    · omega
    · have := dg_len f (n / 256) (UInt8.ofNat (n % 256) :: acc)
      simp only [List.length_cons] at this
      omega
theorem digs_len (n : Nat) : (digs n).length ≤ 8 := by have := dg_len 8 n []; simpa [digs] using this
theorem numB_len (n : Nat) : (numB n).length ≤ 9 := by simp only [numB, List.length_cons]; have := digs_len n; omega

theorem dg_app : ∀ (f n : Nat) (acc : List UInt8), dg f n acc = dg f n [] ++ acc
  | 0, _, acc => by simp [dg]
  | f + 1, n, acc => by
    unfold dg
    split
    · simp
    · rw [dg_app f (n / 256) (_ :: acc), dg_app f (n / 256) [_], List.append_assoc]
      rfl
/-- one digit more -/
theorem dg_fuel : ∀ (f n : Nat), n < 256 ^ f → ∀ k, dg (f + k) n [] = dg f n []
  | 0, n, h, k => by
    have : n = 0 := by simpa using h
    subst this
    rw [dg_zero, dg_zero]
  | f + 1, n, h, k => by
    rw [show f + 1 + k = (f + k) + 1 by omega]
    unfold dg
    split
    · rfl
    · have h' : n / 256 < 256 ^ f := by
        rw [Nat.div_lt_iff_lt_mul (by omega)]
        rw [Nat.pow_succ] at h
        exact h
      rw [dg_app (f + k), dg_app f, dg_fuel f _ h' k]
theorem digs_step {n : Nat} (h0 : 0 < n) (h : n < 18446744073709551616) : digs n = digs (n / 256) ++ [UInt8.ofNat (n % 256)] := by
  have e : dg 8 n [] = dg 7 (n / 256) [UInt8.ofNat (n % 256)] := by
    conv => lhs; unfold dg
    rw [if_neg (by omega)]
  have h' : n / 256 < 256 ^ 7 := by omega
  unfold digs
  rw [e, dg_app, dg_fuel 7 (n / 256) h' 1]
theorem digs_zero : digs 0 = [] := dg_zero 8 []
theorem digs_lt {n : Nat} (k : Nat) (hk : k ≤ 8) (h : n < 256 ^ k) : (digs n).length ≤ k := by
  unfold digs
  have := dg_fuel k n h (8 - k)
  rw [show k + (8 - k) = 8 by omega] at this
  rw [this]
  simpa using dg_len k n []

theorem pow_le8 {f : Nat} (h : f ≤ 8) : 256 ^ f ≤ 18446744073709551616 := Nat.le_trans (Nat.pow_le_pow_right (by decide) h) (by decide)
theorem dg_cons {f m : Nat} (h0 : 0 < m) (acc : List UInt8) : dg (f + 1) m acc = dg f (m / 256) (UInt8.ofNat (m % 256) :: acc) := by
  conv => lhs; unfold dg
  rw [if_neg (by omega)]

theorem digs_range : ∀ (k n : Nat), k ≤ 8 → n < 256 ^ k → n < 256 ^ (digs n).length ∧ (0 < n → 256 ^ ((digs n).length - 1) ≤ n ∧ 0 < (digs n).length)
  | 0, n, _, h => by
    have : n = 0 := by simpa using h
    subst this
    rw [digs_zero]
    simp
  | k + 1, n, hk, h => by
    rcases Nat.eq_zero_or_pos n with h0 | h0
    · subst h0
      rw [digs_zero]
      simp
    · have h64 : n < 18446744073709551616 := Nat.lt_of_lt_of_le h (pow_le8 hk)
      have h' : n / 256 < 256 ^ k := by
        rw [Nat.div_lt_iff_lt_mul (by omega)]
        rw [Nat.pow_succ] at h
        exact h
      obtain ⟨i1, i2⟩ := digs_range k (n / 256) (by omega) h'
      rw [digs_step h0 h64, List.length_append, List.length_singleton, Nat.add_sub_cancel]
      refine ⟨?_, fun _ => ⟨?_, by omega⟩⟩
      · rw [Nat.pow_succ]; omega
      · rcases Nat.eq_zero_or_pos (n / 256) with h1 | h1
        · rw [h1, digs_zero]; simp; omega
        · obtain ⟨j1, j2⟩ := i2 h1
          obtain ⟨m, hm⟩ : ∃ m, (digs (n / 256)).length = m + 1 := ⟨_, (Nat.succ_pred_eq_of_pos j2).symm⟩
          rw [hm] at j1 ⊢
          rw [Nat.add_sub_cancel] at j1
          rw [Nat.pow_succ]
          omega

theorem bitAux_range : ∀ (f n : Nat), n < 2 ^ f → n < 2 ^ Lib.bitLenAux f n ∧ (0 < n → 2 ^ (Lib.bitLenAux f n - 1) ≤ n) ∧ Lib.bitLenAux f n ≤ f
  | 0, n, h => by
    have : n = 0 := by simpa using h
    subst this
    simp [Lib.bitLenAux]
  | f + 1, n, h => by
    unfold Lib.bitLenAux
    split
    · rename_i h0; subst h0; simp
    · rename_i h0
      have h' : n / 2 < 2 ^ f := by rw [Nat.pow_succ] at h; omega
      obtain ⟨i1, i2, i3⟩ := bitAux_range f (n / 2) h'
      refine ⟨by rw [Nat.add_comm, Nat.pow_succ]; omega, fun _ => ?_, by omega⟩
      rw [Nat.add_sub_cancel_left]
      rcases Nat.eq_zero_or_pos (n / 2) with h1 | h1
      · rw [h1]
        have : Lib.bitLenAux f 0 = 0 := by cases f <;> simp [Lib.bitLenAux]
        rw [this]
        simp; omega
      · have j := i2 h1
        have hb : 0 < Lib.bitLenAux f (n / 2) := by
          rcases Nat.eq_zero_or_pos (Lib.bitLenAux f (n / 2)) with hz | hz
          · rw [hz] at i1; simp at i1; omega
          · exact hz
        obtain ⟨m, hm⟩ : ∃ m, Lib.bitLenAux f (n / 2) = m + 1 := ⟨_, (Nat.succ_pred_eq_of_pos hb).symm⟩
        rw [hm] at j ⊢
        rw [Nat.add_sub_cancel] at j
        rw [Nat.pow_succ]
        omega

theorem bitLen_le {n : Nat} (h : n < 18446744073709551616) : Lib.bitLen n ≤ 64 := (bitAux_range 64 n h).2.2
theorem bitLen_wd {n : Nat} (h : n < 18446744073709551616) : (Lib.bitLen n + 7) / 8 = (digs n).length := by
  obtain ⟨a1, a2, a3⟩ := bitAux_range 64 n h
  obtain ⟨b1, b2⟩ := digs_range 8 n (by omega) h
  rcases Nat.eq_zero_or_pos n with h0 | h0
  · subst h0
    rw [digs_zero]
    decide
  · have a4 := a2 h0
    obtain ⟨b3, b4⟩ := b2 h0
    have p1 : ∀ k : Nat, 256 ^ k = 2 ^ (8 * k) := fun k => by rw [Nat.pow_mul]
    rw [p1] at b1 b3
    unfold Lib.bitLen
    generalize Lib.bitLenAux 64 n = b at *
    generalize (digs n).length = d at *
    have c1 : 8 * (d - 1) < b := (Nat.pow_lt_pow_iff_right (by decide : 1 < 2)).1 (Nat.lt_of_le_of_lt b3 a1)
    have c2 : b - 1 < 8 * d := (Nat.pow_lt_pow_iff_right (by decide : 1 < 2)).1 (Nat.lt_of_le_of_lt a4 b1)
    omega

theorem digs_get : ∀ (k n i : Nat), n < 18446744073709551616 → k + 1 + i = (digs n).length → (digs n).getD i 0 = UInt8.ofNat (n / 256 ^ k % 256)
  | k, n, i, h, hk => by
    have h0 : 0 < n := by
      rcases Nat.eq_zero_or_pos n with h0 | h0
      · subst h0; rw [digs_zero] at hk; simp at hk
      · exact h0
    rw [digs_step h0 h, List.length_append, List.length_singleton] at hk
    rw [digs_step h0 h]
    rcases k with _ | k
    · rw [List.getD_eq_getElem?_getD, List.getElem?_append_right (by omega), show i - (digs (n / 256)).length = 0 by omega]
      simp
    · rw [List.getD_eq_getElem?_getD, List.getElem?_append_left (by omega), ← List.getD_eq_getElem?_getD, digs_get k (n / 256) i (by omega) (by omega), Nat.div_div_eq_div_mul, Nat.pow_succ', ]

theorem bv_digit {n k i : Nat} (hn : n < 18446744073709551616) (hk : k + 1 + i = (digs n).length) :
    bv ((digs n).getD i 0) = .int .u8 (IntKind.u8.wrap ((n : Int) / 2 ^ min (8 * (k : Int)).toNat 64)) := by
  have h8 := digs_len n
  rw [digs_get k n i hn hk, bv_ofNat (by omega), IntKind.wrap_u8]
  have e : min (8 * (k : Int)).toNat 64 = 8 * k := by omega
  rw [e]
  have : ((n / 256 ^ k % 256 : Nat) : Int) = (n : Int) / (2 : Int) ^ (8 * k) % 256 := by
    rw [show (256 : Nat) ^ k = 2 ^ (8 * k) by rw [Nat.pow_mul]]
    simp
  rw [← this]
end Go.Proofs.Ytmdbfhfjaapeoaa

/- tenderref01: Num, Text, Same. -/
namespace Go.Proofs.Ytmdbfhfjaapeoaa
open Go.RowKit

set_option maxHeartbeats 400000 in
theorem refSame_any (A B : Option Addr) (c d : Nat) (l m : List UInt8) (Z Z' : Nat → Prop) (w : World) (hl : By w Z A l) (hm : By w Z' B m) :
    Calls Try.prog 16 #[.slice A l.length c, .slice B m.length d] w fun e w' => e = .returned (.bool (l == m)) ∧ w = w' := by
  have k1 := conv_by hl c
  have k2 := conv_by hm d
  go_enter Try.func16, Try.ntmps16
  go_wp2
  go_ret
  exact ⟨rfl, rfl⟩
end Go.Proofs.Ytmdbfhfjaapeoaa
