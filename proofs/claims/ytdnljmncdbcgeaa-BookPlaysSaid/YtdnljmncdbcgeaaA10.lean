/- BookPlays is true for every input: whatever entries come, one after the other, what each is answered, and what the book has, whole and in rows, is the document's. No condition beyond the row's own. -/
import Derived.Test.YtdnljmncdbcgeaaA09
import Derived.Laws.StructEq
import Derived.ChangeMaps5

namespace Go.Proofs.Ytdnljmncdbcgeaa
open Go.RowKit Go.Maps

theorem OwRw.at_ {w : World} {base : Nat} {A : Option Addr} {c : Nat} {l : List (List UInt8 × EP)} {i : Nat} (h : OwRw w base A c l) (hi : i < l.length) :
    ∃ b off, A = some ⟨b, off, none⟩ ∧ b < w.heap.size ∧ w.cell? ⟨b, off + i * 5, none⟩ = some (.string ⟨⟨l[i].1⟩⟩) ∧ w.cell? ⟨b, off + i * 5 + 1, none⟩ = some (.int .i64 l[i].2.2.1) ∧ w.cell? ⟨b, off + i * 5 + 2, none⟩ = some (.int .u64 l[i].2.1) ∧ w.cell? ⟨b, off + i * 5 + 3, none⟩ = some (.int .u64 0) ∧ w.cell? ⟨b, off + i * 5 + 4, none⟩ = some (.int .i64 (l[i].2.2.2.length : Int)) := by
  have hr : Rd w (fun _ => True) 5 A l.length (l.flatMap rowC) := Rd.of_own h (fun _ _ _ => trivial)
  obtain ⟨b, off, hA, _, hb, hc⟩ := hr.2 (by omega)
  have hg : ∀ j, j < 5 → (l.flatMap rowC)[i * 5 + j]? = (rowC l[i])[j]? := fun j hj => flat_get (k := 5) rowC_len l i j hi hj
  refine ⟨b, off, hA, hb, hc _ _ (hg 0 (by omega)), ?_, ?_, ?_, ?_⟩
  · rw [Nat.add_assoc]; exact hc _ _ (hg 1 (by omega))
  · rw [Nat.add_assoc]; exact hc _ _ (hg 2 (by omega))
  · rw [Nat.add_assoc]; exact hc _ _ (hg 3 (by omega))
  · rw [Nat.add_assoc]; exact hc _ _ (hg 4 (by omega))
theorem OwRw.below {w w' : World} {base : Nat} {A : Option Addr} {c : Nat} {l : List (List UInt8 × EP)} (h : OwRw w base A c l) (k : Below w.heap.size w w') : OwRw w' base A c l := own_below h k
set_option maxRecDepth 100000 in
theorem neq_row (p : ByteArray) (k v n : Int) (w : World) : (binOp .neq 52 (.agg #[.string p, .int .i64 k, .int .u64 v, .int .u64 0, .int .i64 n]) (.agg #[.string p, .int .i64 k, .int .u64 v, .int .u64 0, .int .i64 n])).run Try.prog w = .ok (.bool false) w := by
  rw [run_neq_struct, run_equalIn_struct _ _ _ _ _ (by kernel_rfl) (by kernel_rfl)]
  simp [go_sem]
theorem rows_all (T : List (List UInt8 × EP)) : rowsGo [] (-1) T [] = ([], !T.isEmpty) := by
  rcases T with _ | ⟨y, T⟩
  · rfl
  · rw [rowsGo_cons, if_neg (by simp [behB]), if_pos (by simp)]
    rfl
theorem rowsGo_len (a : List UInt8) (n : Int) : ∀ (T acc : List (List UInt8 × EP)), (rowsGo a n T acc).1.length ≤ acc.length + T.length
  | [], acc => Nat.le_refl _
  | y :: T, acc => by
    rw [rowsGo_cons]
    split
    · have := rowsGo_len a n T acc
      simp only [List.length_cons]; omega
    · split
      · simp
      · have := rowsGo_len a n T (acc ++ [y])
        simp only [List.length_cons, List.length_append, List.length_nil] at this ⊢; omega
/-- the first entry of a path, plainly -/
theorem find_ep (p : ByteArray) : ∀ M : List EV, (findE p M).pl = (tl p, ((getR (M.map EV.pl) (tl p)).getD (0, 0, [])))
  | [] => rfl
  | x :: M => by
    rw [List.map_cons, getR_cons]
    unfold findE
    by_cases h : x.p = p
    · rw [if_pos h, if_pos (by rw [← h]; rfl)]
      rw [← h]
      rfl
    · rw [if_neg h, if_neg (show ¬ x.pl.1 = tl p from fun e => h (tl_inj e)), find_ep p M]
theorem gotE_pl {w : World} {bb : Nat} {mo : Option Nat} {L : List (List UInt8 × EV)} {s : Int} (h : BookAt w bb mo L s) (p : List UInt8) : (gotE L p).pl = (p, ((getR (plainB L) p).getD (0, 0, []))) := by
  unfold gotE
  rw [get_plainB]
  rcases hg : getR L p with _ | o
  · rfl
  · have := (h.ok _ (getR_mem hg)).p
    show o.pl = _
    unfold EV.pl
    rw [this]
    rfl
theorem find_ok {w : World} {A : Option Addr} {M : List EV} (h : EsR w A M) (p : ByteArray) : (findE p M).x.ok w (fun _ => True) := by
  have : ∀ M : List EV, (∀ x ∈ M, x.x.ok w (fun _ => True)) → (findE p M).x.ok w (fun _ => True) := by
    intro M hM
    induction M with
    | nil => exact ⟨Rd.nil, by simp [findE], by simp [findE, maxLen]⟩
    | cons x M ih =>
      rw [findE_cons]
      split
      · exact hM x (by simp)
      · exact ih (fun y hy => hM y (by simp [hy]))
  exact this M h.ok

set_option maxRecDepth 100000 in
set_option maxHeartbeats 4000000 in
theorem bookPlays_any (A : Option Addr) (c : Nat) (l : List EV) (p : List UInt8) (n : Int) (w : World) (h : Ents w (fun b => b < w.heap.size) A l) (hp : p.length ≤ 140737488355328) (hn : 0 ≤ n ∧ n < 256) :
    Calls Try.prog 4 #[.slice A l.length c, .string ⟨⟨p⟩⟩, .int .u8 n] w fun e w' => e = .returned (.bool true) ∧ Below w.heap.size w w' := by
  have HL := Lib.hid (lightE_any A c l _ _ h)
  have HA := Lib.hid h
  clear h
  rcases hli : lightE l with _ | _
  · rw [hli] at HL
    go_enter Try.func4, Try.ntmps4
    go_wp2_with fail
    refine HL.out.mono ?_
    rintro e w1 ⟨rfl, hw1⟩
    go_wp2_with fail
    refine (lives22_any _).mono ?_
    rintro e w9 ⟨rfl, hb9⟩
    go_wp2_with fail
    go_ret
    exact ⟨rfl, hw1.trans (hb9.mono hw1.size)⟩
  · rw [hli] at HL
    have hla := lightE_all hli
    by_cases hp2 : p.length ≤ 200
    · go_enter Try.func4, Try.ntmps4
      go_wp2_with fail
      refine HL.out.mono ?_
      rintro e w1 ⟨rfl, hw1⟩
      have HPL := Lib.hid (plays22_any A c l _ w1 (HA.out.below hw1) hla)
      clear HL HA
      go_wp2_with fail
      refine HPL.out.mono ?_
      rintro e w3 ⟨bb, mo, L, B, d, M, rfl, hP, hbb, hmo, hb3⟩
      have hw3 := hw1.trans (hb3.mono hw1.size)
      have hba : Below w3.heap.size w3 (w3.alloc (.cells #[.int .u64 0, .slice B M.length d] 33)) := (Below.refl _ _).alloc (Nat.le_refl _) _
      have y4 := Blk.new w3 33 #[.int .u64 0, .slice B M.length d]
      have hw4 := hw3.trans (hba.mono hw3.size)
      have HP4 := Lib.hid (hP.below hba)
      clear HPL hP hb3
      go_upto_region 4 with (fail)
      generalize w3.alloc (.cells #[.int .u64 0, .slice B M.length d] 33) = w4 at *
      generalize hT : playB [] (l.map EV.pl) = T at *
      have hlm : L.length = M.length := by
        have h1 := congrArg List.length HP4.out.plain.out
        have h2 := congrArg List.length HP4.out.same.out
        rw [plainB_len] at h1
        rw [List.length_map] at h2
        omega
      have hlmb : ((L.length : Int) != (M.length : Int)) = false := by simp; omega
      have hML : M.length ≤ 256 := by have := HP4.out.book.len; omega
      have HLM := Lib.hid hlm
      clear hba hT hlm
      refine wp_region_p [(0, true), (1, true), (2, true), (3, true), (5, true), (6, true), (7, true), (4, false), (8, true), (9, true), (10, true), (11, true), (13, true), (14, true), (12, false), (15, false), (16, true), (17, true), (18, true), (19, true), (20, true), (22, true), (23, true), (21, false), (24, false), (25, false), (26, true), (27, true)] (fun W => Below w4.heap.size w4 W) (by kernel_rfl) (by kernel_rfl) ?_
      simp only [List.map_cons, List.map_nil, List.filterMap_cons, List.filterMap_nil, List.getElem?_cons_zero, List.getElem?_cons_succ, List.length_cons, List.length_nil, Nat.zero_add, Nat.reduceAdd, List.drop_succ_cons, List.drop_zero]
      refine mx_move _ (by kernel_rfl) rfl ⟨_, (by ((try simp [go_sem]); (try rfl); done)), _, (by (simp only [Act.put, List.setIfInBounds_toArray, List.set_cons_zero, List.set_cons_succ]; rfl)), ?_⟩
      refine mx_val (by kernel_rfl) ⟨_, (by (intro w' hC; clear hC; (try go_simp); (try with_reducible rfl); done)), _, (by (simp only [Act.put, List.setIfInBounds_toArray, List.set_cons_zero, List.set_cons_succ]; rfl)), ?_⟩
      refine mx_move _ (by kernel_rfl) rfl ⟨_, (by ((try simp [go_sem]); (try rfl); done)), _, (by (simp only [Act.put, List.setIfInBounds_toArray, List.set_cons_zero, List.set_cons_succ]; rfl)), ?_⟩
      refine mx_move _ (by kernel_rfl) rfl ⟨_, (by ((try simp [go_sem]); (try rfl); done)), _, (by (simp only [Act.put, List.setIfInBounds_toArray, List.set_cons_zero, List.set_cons_succ]; rfl)), ?_⟩
      refine mx_val (by kernel_rfl) ⟨_, (by (intro w' hC; clear hC; (try go_simp); (try with_reducible rfl); done)), _, (by (simp only [Act.put, List.setIfInBounds_toArray, List.set_cons_zero, List.set_cons_succ]; rfl)), ?_⟩
      refine mx_val (by kernel_rfl) ⟨_, (by (intro w' hC; (have q0 := (y4.below hC).cell 0; have q1 := (y4.below hC).cell 1; simp only [List.getElem?_toArray, List.getElem?_cons_zero, List.getElem?_cons_succ] at q0 q1); clear hC; (try go_simp); (try with_reducible rfl); done)), _, (by (simp only [Act.put, List.setIfInBounds_toArray, List.set_cons_zero, List.set_cons_succ]; rfl)), ?_⟩
      refine mx_val (by kernel_rfl) ⟨_, (by (intro w' hC; clear hC; (try go_simp); (try with_reducible rfl); done)), _, (by (simp only [Act.put, List.setIfInBounds_toArray, List.set_cons_zero, List.set_cons_succ]; rfl)), ?_⟩
      refine mx_call ((Below.refl _ _).drew) (by kernel_rfl) ?_ (bookLen_any bb mo L 0 w4.drew (HP4.out.book.below (Below.refl _ _).drew)) ?_
      · (go_simp; done)
      rintro e wa ⟨rfl, rfl⟩
      refine ⟨_, rfl, _, (by (simp only [Act.put, List.setIfInBounds_toArray, List.set_cons_zero, List.set_cons_succ]; rfl)), ?_⟩
      refine mx_val (by kernel_rfl) ⟨_, (by (intro w' hC; clear hC; (try go_simp); (try with_reducible rfl); done)), _, (by (simp only [Act.put, List.setIfInBounds_toArray, List.set_cons_zero, List.set_cons_succ]; rfl)), ?_⟩
      refine mx_val (by kernel_rfl) ⟨_, (by (intro w' hC; clear hC; (try go_simp); (try with_reducible rfl); done)), _, (by (simp only [Act.put, List.setIfInBounds_toArray, List.set_cons_zero, List.set_cons_succ]; rfl)), ?_⟩
      refine mx_move _ (by kernel_rfl) rfl ⟨_, (by ((try simp [go_sem]); (try rfl); done)), _, (by (simp only [Act.put, List.setIfInBounds_toArray, List.set_cons_zero, List.set_cons_succ]; rfl)), ?_⟩
      refine mx_move _ (by kernel_rfl) rfl ⟨_, (by ((try simp [go_sem]); (try rfl); done)), _, (by (simp only [Act.put, List.setIfInBounds_toArray, List.set_cons_zero, List.set_cons_succ]; rfl)), ?_⟩
      refine mx_val (by kernel_rfl) ⟨_, (by (intro w' hC; clear hC; (try go_simp); (try with_reducible rfl); done)), _, (by (simp only [Act.put, List.setIfInBounds_toArray, List.set_cons_zero, List.set_cons_succ]; rfl)), ?_⟩
      refine mx_val (by kernel_rfl) ⟨_, (by (intro w' hC; (have q0 := (y4.below hC).cell 0; have q1 := (y4.below hC).cell 1; simp only [List.getElem?_toArray, List.getElem?_cons_zero, List.getElem?_cons_succ] at q0 q1); clear hC; (try go_simp); (try with_reducible rfl); done)), _, (by (simp only [Act.put, List.setIfInBounds_toArray, List.set_cons_zero, List.set_cons_succ]; rfl)), ?_⟩
      refine mx_call ((Below.refl _ _).drew) (by kernel_rfl) ?_ (bookEntries_any bb mo L 0 w4.drew (HP4.out.book.below (Below.refl _ _).drew)) ?_
      · (go_simp; done)
      rintro e wb ⟨A5, c5, M5, rfl, hM5, hO5, hb5⟩
      have hcb : Below w4.heap.size w4 wb := ((Below.refl _ _).drew).trans hb5
      have hM5l : M5.length ≤ 256 := by
        have := congrArg List.length hM5.out
        rw [List.length_map, plainB_len] at this
        have := HP4.out.book.len
        omega
      have HSM := Lib.hid (refSame22_any A5 B c5 d M5 M wb (hO5.esr (by omega)) (HP4.out.es.below hcb))
      rw [hM5.out, HP4.out.plain.out, HP4.out.same.out, show ∀ (z : List (List UInt8 × EP)), decide (z = z) = true from fun z => by simp] at HSM
      clear hM5 hO5
      refine ⟨_, rfl, _, (by (simp only [Act.put, List.setIfInBounds_toArray, List.set_cons_zero, List.set_cons_succ]; rfl)), ?_⟩
      refine mx_call (hcb) (by kernel_rfl) ?_ (HSM.out) ?_
      · (go_simp; done)
      rintro e wc ⟨rfl, hb6⟩
      have hcc : Below w4.heap.size w4 wc := hcb.trans (hb6.mono hcb.size)
      clear HSM
      refine ⟨_, rfl, _, (by (simp only [Act.put, List.setIfInBounds_toArray, List.set_cons_zero, List.set_cons_succ]; rfl)), ?_⟩
      refine mx_val (by kernel_rfl) ⟨_, (by (intro w' hC; clear hC; (try go_simp); (try with_reducible rfl); done)), _, (by (simp only [Act.put, List.setIfInBounds_toArray, List.set_cons_zero, List.set_cons_succ]; rfl)), ?_⟩
      refine mx_val (by kernel_rfl) ⟨_, (by (intro w' hC; clear hC; (try go_simp); (try with_reducible rfl); done)), _, (by (simp only [Act.put, List.setIfInBounds_toArray, List.set_cons_zero, List.set_cons_succ]; rfl)), ?_⟩
      refine mx_move _ (by kernel_rfl) rfl ⟨_, (by ((try simp [go_sem]); (try rfl); done)), _, (by (simp only [Act.put, List.setIfInBounds_toArray, List.set_cons_zero, List.set_cons_succ]; rfl)), ?_⟩
      refine mx_move _ (by kernel_rfl) rfl ⟨_, (by ((try simp [go_sem]); (try rfl); done)), _, (by (simp only [Act.put, List.setIfInBounds_toArray, List.set_cons_zero, List.set_cons_succ]; rfl)), ?_⟩
      refine mx_move _ (by kernel_rfl) rfl ⟨_, (by ((try simp [go_sem]); (try rfl); done)), _, (by (simp only [Act.put, List.setIfInBounds_toArray, List.set_cons_zero, List.set_cons_succ]; rfl)), ?_⟩
      refine mx_val (by kernel_rfl) ⟨_, (by (intro w' hC; (have q0 := (y4.below hC).cell 0; have q1 := (y4.below hC).cell 1; simp only [List.getElem?_toArray, List.getElem?_cons_zero, List.getElem?_cons_succ] at q0 q1); clear hC; (try go_simp); (try with_reducible rfl); done)), _, (by (simp only [Act.put, List.setIfInBounds_toArray, List.set_cons_zero, List.set_cons_succ]; rfl)), ?_⟩
      refine mx_move _ (by kernel_rfl) rfl ⟨_, (by ((try simp [go_sem]); (try rfl); done)), _, (by (simp only [Act.put, List.setIfInBounds_toArray, List.set_cons_zero, List.set_cons_succ]; rfl)), ?_⟩
      refine mx_call (hcc) (by kernel_rfl) ?_ (bookGet_any bb mo L 0 p wc (HP4.out.book.below hcc) (by simp only [maxLen]; omega)) ?_
      · (go_simp; done)
      rintro e wd ⟨q5, v5, k5, A6, c6, l6, rfl, hg5, ho5, hb7⟩
      have hcd : Below w4.heap.size w4 wd := hcc.trans (hb7.mono hcc.size)
      refine ⟨_, rfl, _, (by (simp only [Act.put, List.setIfInBounds_toArray, List.set_cons_zero, List.set_cons_succ]; rfl)), ?_⟩
      refine mx_call (hcd) (by kernel_rfl) ?_ (refGet22_any B d M 0 ⟨⟨p⟩⟩ wd (HP4.out.es.below hcd)) ?_
      · (go_simp; done)
      rintro e we ⟨⟨o, rfl, ho⟩, hb8⟩
      have hce : Below w4.heap.size w4 we := hcd.trans (hb8.mono hcd.size)
      have hoo : o.x.ok we (fun _ => True) := by rw [ho.out]; exact find_ok (HP4.out.es.below hce) _
      have HS2 := Lib.hid (refEntrySame_any q5 o.p v5 o.v k5 o.k A6 o.x.A c6 o.x.c l6 o.x.l _ _ we ((ho5.rd).below hb8) hoo.1)
      have hsame : sameE (tl q5) (tl o.p) v5 o.v k5 o.k l6 o.x.l = true := by
        obtain ⟨e1, e2, e3, e4⟩ := hg5.out
        rw [e1, e2, e3, e4, sameE_pl, ho.out, gotE_pl HP4.out.book p, find_ep, HP4.out.plain.out, HP4.out.same.out]
        simp
      rw [hsame] at HS2
      clear hg5 ho5 ho hoo hsame
      refine ⟨_, rfl, _, (by (simp only [Act.put, List.setIfInBounds_toArray, List.set_cons_zero, List.set_cons_succ]; rfl)), ?_⟩
      refine mx_call (hce) (by kernel_rfl) ?_ (HS2.out) ?_
      · (go_simp; done)
      rintro e wf ⟨rfl, hb9⟩
      have hcf : Below w4.heap.size w4 wf := hce.trans (hb9.mono hce.size)
      clear HS2
      refine ⟨_, rfl, _, (by (simp only [Act.put, List.setIfInBounds_toArray, List.set_cons_zero, List.set_cons_succ]; rfl)), ?_⟩
      refine mx_val (by kernel_rfl) ⟨_, (by (intro w' hC; clear hC; (try go_simp); (try with_reducible rfl); done)), _, (by (simp only [Act.put, List.setIfInBounds_toArray, List.set_cons_zero, List.set_cons_succ]; rfl)), ?_⟩
      refine mx_val (by kernel_rfl) ⟨_, (by (intro w' hC; clear hC; (try go_simp); (try with_reducible rfl); done)), _, (by (simp only [Act.put, List.setIfInBounds_toArray, List.set_cons_zero, List.set_cons_succ]; rfl)), ?_⟩
      refine mx_end hcf ?_
      have hw5 := hw4.trans (hcf.mono hw4.size)
      replace y4 := y4.below hcf
      have HP5 := Lib.hid (HP4.out.below hcf)
      clear HP4 hcb hcc hcd hce hcf hb5 hb6 hb7 hb8 hb9 HLM hlmb
      have p0 := y4.cell 0
      have p1 := y4.cell 1
      simp only [List.getElem?_toArray, List.getElem?_cons_zero, List.getElem?_cons_succ] at p0 p1
      have HMP : Hid (∀ x ∈ M, x.p.size ≤ 1048576) := Lib.hid (fun x hx => by
        have h1 := checkP_good (HP5.out.ok.good x.pl (by rw [← HP5.out.same.out]; exact List.mem_map.2 ⟨x, hx, rfl⟩))
        have h2 := goodB_len (userB_good h1.1)
        have h3 : x.pl.1 = tl x.p := rfl
        rw [h3, tl_len] at h2
        omega)
      have hTl : T.length = M.length := by rw [← HP5.out.same.out]; simp
      go_wp2_with fail
      refine (bookRows_any bb mo L 0 p (n % 12) wf HP5.out.book (by omega)).mono ?_
      rintro e w6 ⟨⟨A6, c6, l6, b6, rfl, hl6, ho6⟩, hb6⟩
      rw [HP5.out.plain.out] at hl6
      have hw6 := hw5.trans (hb6.mono hw5.size)
      replace y4 := y4.below hb6
      have HP6 := Lib.hid (HP5.out.below hb6)
      clear p0 p1 HP5 hb6
      have p0 := y4.cell 0
      have p1 := y4.cell 1
      simp only [List.getElem?_toArray, List.getElem?_cons_zero, List.getElem?_cons_succ] at p0 p1
      go_wp2_with fail
      refine (refRows22_any B d M 0 p (n % 12) w6 HP6.out.es (by omega) HMP.out).mono ?_
      rintro e w7 ⟨⟨A7, c7, l7, b7, rfl, hl7, ho7⟩, hb7⟩
      rw [HP6.out.same.out] at hl7
      have hw7 := hw6.trans (hb7.mono hw6.size)
      replace y4 := y4.below hb7
      have HP7 := Lib.hid (HP6.out.below hb7)
      have HO6 := Lib.hid (ho6.below hb7)
      have HO7 := Lib.hid ho7
      obtain ⟨rfl, rfl⟩ : l6 = l7 ∧ b6 = b7 := by
        have := hl6.out.trans hl7.out.symm
        simpa using this
      have hl6l : l6.length ≤ 256 := by
        have := rowsGo_len p (n % 12) T []
        rw [← hl6.out] at this
        simp at this
        omega
      clear p0 p1 HP6 hb7 ho6 ho7 hl6 hl7
      go_wp2_with fail
      go_loopw [91] (fun iv wr => ∃ i : Nat, i ≤ l6.length ∧ iv = .int .i64 (i : Int) ∧ Below w7.heap.size w7 wr) (fun iv _ => l6.length - (intOf iv).toNat)
      case atStart => exact ⟨0, Nat.zero_le _, rfl, Below.refl _ _⟩
      case round =>
        obtain ⟨i, hi, rfl, hb⟩ := hrel
        have hbr := hw7.trans (hb.mono hw7.size)
        by_cases hlt : i < l6.length
        · obtain ⟨b1, off1, hA1, hbb1, c0, c1, c2, c3, c4⟩ := (HO6.out.below hb).at_ hlt
          obtain ⟨b2, off2, hA2, hbb2, f0, f1, f2, f3, f4⟩ := (HO7.out.below hb).at_ hlt
          generalize l6[i] = y at *
          have hba : Below wr.heap.size wr (wr.alloc (.cells #[.string ⟨⟨y.1⟩⟩, .int .i64 y.2.2.1, .int .u64 y.2.1, .int .u64 0, .int .i64 (y.2.2.2.length : Int)] 52)) := (Below.refl _ _).alloc (Nat.le_refl _) _
          have z9 := Blk.new wr 52 #[.string ⟨⟨y.1⟩⟩, .int .i64 y.2.2.1, .int .u64 y.2.1, .int .u64 0, .int .i64 (y.2.2.2.length : Int)]
          have d0 := cellAt hba hbb2 f0
          have d1 := cellAt hba hbb2 f1
          have d2 := cellAt hba hbb2 f2
          have d3 := cellAt hba hbb2 f3
          have d4 := cellAt hba hbb2 f4
          have hbA : b2 < (wr.alloc (.cells #[.string ⟨⟨y.1⟩⟩, .int .i64 y.2.2.1, .int .u64 y.2.1, .int .u64 0, .int .i64 (y.2.2.2.length : Int)] 52)).heap.size := by simp; omega
          have hw9 := hb.trans (hba.mono hb.size)
          have HNE := Lib.hid (fun W => neq_row ⟨⟨y.1⟩⟩ y.2.2.1 y.2.1 (y.2.2.2.length : Int) W)
          subst hA1
          subst hA2
          clear f0 f1 f2 f3 f4
          go_upto_region 13 with (fail)
          generalize wr.alloc (.cells #[.string ⟨⟨y.1⟩⟩, .int .i64 y.2.2.1, .int .u64 y.2.1, .int .u64 0, .int .i64 (y.2.2.2.length : Int)] 52) = w9 at *
          clear hba c0 c1 c2 c3 c4
          refine wp_region_b 6 (by kernel_rfl) (by kernel_rfl) ?_
          simp only [List.take_succ_cons, List.take_zero, List.drop_succ_cons, List.drop_zero]
          refine lb_val (by kernel_rfl) ⟨_, (by (intro w' hC; (have e0 := (z9.below hC).cell 0; have e1 := (z9.below hC).cell 1; have e2 := (z9.below hC).cell 2; have e3 := (z9.below hC).cell 3; have e4 := (z9.below hC).cell 4; simp only [List.getElem?_toArray, List.getElem?_cons_zero, List.getElem?_cons_succ] at e0 e1 e2 e3 e4); clear hC; (try go_simp); (try with_reducible rfl); done)), _, (by (simp only [Act.put, List.setIfInBounds_toArray, List.set_cons_zero, List.set_cons_succ]; rfl)), ?_⟩
          refine lb_move _ (by kernel_rfl) rfl ⟨_, (by ((try simp [go_sem]); (try rfl); done)), _, (by (simp only [Act.put, List.setIfInBounds_toArray, List.set_cons_zero, List.set_cons_succ]; rfl)), ?_⟩
          refine lb_move _ (by kernel_rfl) rfl ⟨_, (by ((try simp [go_sem]); (try rfl); done)), _, (by (simp only [Act.put, List.setIfInBounds_toArray, List.set_cons_zero, List.set_cons_succ]; rfl)), ?_⟩
          refine lb_val (by kernel_rfl) ⟨_, (by (intro w' hC; clear hC; (try go_simp); (try with_reducible rfl); done)), _, (by (simp only [Act.put, List.setIfInBounds_toArray, List.set_cons_zero, List.set_cons_succ]; rfl)), ?_⟩
          refine lb_val (by kernel_rfl) ⟨_, (by (intro w' hC; (have e0 := cellAt hC hbA d0; have e1 := cellAt hC hbA d1; have e2 := cellAt hC hbA d2; have e3 := cellAt hC hbA d3; have e4 := cellAt hC hbA d4); clear hC; (try go_simp); (try with_reducible rfl); done)), _, (by (simp only [Act.put, List.setIfInBounds_toArray, List.set_cons_zero, List.set_cons_succ]; rfl)), ?_⟩
          refine lb_val (by kernel_rfl) ⟨_, (by (intro w' hC; (have q := HNE.out w'); clear hC; (try go_simp); (try with_reducible rfl); done)), _, (by (simp only [Act.put, List.setIfInBounds_toArray, List.set_cons_zero, List.set_cons_succ]; rfl)), ?_⟩
          refine .nil ?_
          intro w10 hb10
          have hw10 := hw9.trans (hb10.mono hw9.size)
          clear hb10 z9 d0 d1 d2 d3 d4
          go_wp2_with fail
          go_roundw
          case rel => exact ⟨i + 1, hlt, by go_num, hw10⟩
          case measure => simp [intOf]; omega
        · have e : i = l6.length := by omega
          subst e
          have hr := bookRows_any bb mo L 0 [] (-1) wr (HP7.out.book.below hb) (by simp)
          rw [HP7.out.plain.out, rows_all] at hr
          have HRR := Lib.hid hr
          replace y4 := y4.below hb
          have hM0 : (!T.isEmpty) = decide (0 < (M.length : Int)) := by
            rcases T with _ | ⟨z, T⟩
            · have : M.length = 0 := by simpa using hTl.symm
              rw [this]; rfl
            · have : M.length = T.length + 1 := by simpa using hTl.symm
              rw [this]; simp
          rw [hM0] at HRR
          have hm2 : decide (0 < M.length) = decide (0 < (M.length : Int)) := by simp
          generalize hmd : decide (0 < (M.length : Int)) = mB at *
          clear hr hM0 HO6 HO7 HP7
          go_wp2_with fail
          refine HRR.out.mono ?_
          rintro e w11 ⟨⟨A8, c8, l8, b8, rfl, hl8, _⟩, hb11⟩
          obtain ⟨rfl, rfl⟩ : l8 = [] ∧ b8 = mB := by simpa using hl8.out
          have hw11 := hbr.trans (hb11.mono hbr.size)
          replace y4 := y4.below hb11
          have p0 := y4.cell 0
          have p1 := y4.cell 1
          simp only [List.getElem?_toArray, List.getElem?_cons_zero, List.getElem?_cons_succ] at p0 p1
          clear hl8 hb11 HRR
          go_wp2_with fail
          refine (lives22_any _).mono ?_
          rintro e w12 ⟨rfl, hb12⟩
          have hw12 := hw11.trans (hb12.mono hw11.size)
          go_wp2_with fail
          go_ret
          exact ⟨rfl, hw12⟩
    · have hp3 : decide ((200 : Int) < (p.length : Int)) = true := decide_eq_true (by omega)
      go_enter Try.func4, Try.ntmps4
      go_wp2_with fail
      refine HL.out.mono ?_
      rintro e w1 ⟨rfl, hw1⟩
      go_wp2_with fail
      refine (lives22_any _).mono ?_
      rintro e w9 ⟨rfl, hb9⟩
      go_wp2_with fail
      go_ret
      exact ⟨rfl, hw1.trans (hb9.mono hw1.size)⟩

end Go.Proofs.Ytdnljmncdbcgeaa

/- api.Leaf: as an argument. -/
namespace Go.Proofs.Ytdnljmncdbcgeaa
open Go.RowKit Go.WideShapes Go.ChangeShapes Go.ChangeAt Go.Deep Go.Joins

section
variable {H : Type} {enc : TypeId × Value → H} {w : World} {spare : Nat → Bool} {held : Bool}
/-- what is known of a leaf -/
structure LV.okAt (w : World) (Z : Nat → Prop) (o : LV) : Prop where
  x : o.x.ok w Z
  len : o.x.l.length ≤ 140737488355328
  k : -9223372036854775808 ≤ o.k ∧ o.k < 9223372036854775808
theorem list2 {α : Type} {l : List α} (h : l.length = 2) : ∃ a0 a1, l = [a0, a1] := by
  match l, h with
  | [a0, a1], _ => exact ⟨_, _, rfl⟩
set_option maxRecDepth 100000 in
theorem open_leaf {n : Nat} {cs : List Value} {x : DataW H × List MemPlace} (h : DataW.trod enc Try.prog w 0 spare held n 26 cs = some x) (hw : Within 26 x) :
    ∃ o : LV, cs = o.cells ∧ o.okAt w (fun b => b < w.heap.size) := by
  obtain ⟨ys, n', hcl, hyl, hf⟩ := open_st Try.underlying26 (by kernel_rfl) h (by kernel_rfl) hw
  obtain ⟨a0, a1, rfl⟩ := list2 hcl
  obtain ⟨y0, y1, rfl⟩ := list2 hyl
  obtain ⟨k, e, _, wk⟩ := DataW.trod_int Try.underlying3 (hf 0 _ _ _ rfl rfl rfl).1
  obtain rfl := List.singleton_inj.1 e
  obtain ⟨b, rfl, hb, hbl⟩ := open_bv (hf 1 _ _ _ rfl rfl rfl).1 (hf 1 _ _ _ rfl rfl rfl).2
  have bk := i64_bd wk
  exact ⟨⟨k, b⟩, rfl, hb, hbl, bk⟩
set_option maxRecDepth 100000 in
theorem open_leafv {r : Reach} {b0 : Nat} {v : Value} {d : DataW H} {p : List MemPlace} (hv : Value.okWide Try.prog w r b0 26 v) (h : DataW.Trod enc Try.prog w 0 spare held 26 v d p) (hw : Within 26 (d, p)) :
    ∃ o : LV, v = .agg #[.int .i64 o.k, .slice o.x.A o.x.l.length o.x.c] ∧ o.okAt w (fun b => b < w.heap.size) := by
  obtain ⟨cs, rfl, hsz⟩ := okWide_struct Try.underlying26 hv
  obtain ⟨l⟩ := cs
  obtain ⟨n, hn⟩ := h
  obtain ⟨o, e, ho⟩ := open_leaf (cs := l) hn hw
  subst e
  exact ⟨o, rfl, ho⟩
end
end Go.Proofs.Ytdnljmncdbcgeaa

/- api.Entry: as an argument, in slices. -/
namespace Go.Proofs.Ytdnljmncdbcgeaa
open Go.RowKit Go.WideShapes Go.ChangeShapes Go.ChangeAt Go.ChangeMaps Go.Deep Go.Joins

section
variable {H : Type} {enc : TypeId × Value → H} {w : World} {spare : Nat → Bool} {held : Bool}
/-- a struct of fields of any number of cells -/
theorem open_stg {t : TypeId} {fs : Array Field} {N : Nat} (hs : Try.prog.underlying t = some (.struct fs)) {n : Nat} {cs : List Value} {x : DataW H × List MemPlace} (h : DataW.trod enc Try.prog w 0 spare held n t cs = some x) (hC : Try.prog.cellsOf t = N) (hw : Within t x) :
    ∃ (ys : List (DataW H × List MemPlace)) (n' : Nat), cs.length = N ∧ ys.length = fs.size ∧
      ∀ (j : Nat) (f : Field) (y : DataW H × List MemPlace), fs[j]? = some f → ys[j]? = some y → DataW.trod enc Try.prog w 0 spare held n' f.type ((cs.drop f.offset).take (Try.prog.cellsOf f.type)) = some y ∧ Within f.type y := by
  obtain ⟨xs, n', _, hx, hl, hlen, hg⟩ := DataW.trod_struct hs h
  rw [hC] at hl
  refine ⟨xs, n', hl, hlen, fun j f y hj hy => ⟨by rw [hg j f hj, hy], fun k hk => hw k ?_⟩⟩
  rw [hx]
  simp only [DataW.weights, hs]
  refine DataW.weights_mem_each (j := j) (t := f.type) (d := y.1) ?_ ?_ k hk
  · rw [List.getElem?_map]
    have : fs.toList[j]? = some f := by simpa using hj
    rw [this]; rfl
  · rw [List.getElem?_map, hy]; rfl
theorem list3 {α : Type} {l : List α} (h : l.length = 3) : ∃ a0 a1 a2, l = [a0, a1, a2] := by
  match l, h with
  | [a0, a1, a2], _ => exact ⟨_, _, _, rfl⟩
theorem str_within {b : List UInt8} {p : List MemPlace} (hw : Within 9 ((DataW.lit (Lit.string b) : DataW H), p)) : b.length ≤ 140737488355328 := by
  have h1 := hw b.length (by simp [DataW.weights])
  have h2 := reachBytes_lt
  omega
set_option maxRecDepth 100000 in
theorem open_ent {n : Nat} {cs : List Value} {x : DataW H × List MemPlace} (h : DataW.trod enc Try.prog w 0 spare held n 28 cs = some x) (hw : Within 28 x) :
    ∃ o : EV, cs = o.cells ∧ o.ok w (fun b => b < w.heap.size) := by
  obtain ⟨ys, n', hcl, hyl, hf⟩ := open_stg (N := 4) Try.underlying28 h (by kernel_rfl) hw
  obtain ⟨a0, a1, a2, a3, rfl⟩ := list4 hcl
  obtain ⟨y0, y1, y2, rfl⟩ := list3 hyl
  obtain ⟨f0, w0⟩ := hf 0 _ _ rfl rfl
  obtain ⟨f1, w1⟩ := hf 1 _ _ rfl rfl
  obtain ⟨f2, w2⟩ := hf 2 _ _ rfl rfl
  have c0 : Try.prog.cellsOf 9 = 1 := by kernel_rfl
  have c1 : Try.prog.cellsOf 23 = 1 := by kernel_rfl
  have c2 : Try.prog.cellsOf 26 = 2 := by kernel_rfl
  replace f0 : DataW.trod enc Try.prog w 0 spare held n' 9 (([a0, a1, a2, a3].drop 0).take (Try.prog.cellsOf 9)) = some y0 := f0
  replace f1 : DataW.trod enc Try.prog w 0 spare held n' 23 (([a0, a1, a2, a3].drop 1).take (Try.prog.cellsOf 23)) = some y1 := f1
  replace f2 : DataW.trod enc Try.prog w 0 spare held n' 26 (([a0, a1, a2, a3].drop 2).take (Try.prog.cellsOf 26)) = some y2 := f2
  rw [c0] at f0
  rw [c1] at f1
  rw [c2] at f2
  obtain ⟨p, e, hx0, _⟩ := DataW.trod_string Try.underlying9 f0
  obtain ⟨v, e1, _, wv⟩ := DataW.trod_int Try.underlying23 f1
  obtain ⟨o, e2, ho⟩ := open_leaf f2 w2
  obtain rfl : a0 = .string p := by simpa using e
  obtain rfl : a1 = .int .u64 v := by simpa using e1
  obtain ⟨k, xx⟩ := o
  obtain ⟨rfl, rfl⟩ : a2 = .int .i64 k ∧ a3 = .slice xx.A xx.l.length xx.c := by simpa [LV.cells] using e2
  rw [hx0] at w0
  refine ⟨⟨p, v, k, xx⟩, rfl, ho.x, ho.len, ?_, u64_bd wv, ho.k⟩
  have h1 := str_within w0
  have h2 : p.data.toList.length = p.size := by simp
  show p.size ≤ _
  omega
set_option maxRecDepth 100000 in
theorem open_entv {r : Reach} {b0 : Nat} {v : Value} {d : DataW H} {p : List MemPlace} (hv : Value.okWide Try.prog w r b0 28 v) (h : DataW.Trod enc Try.prog w 0 spare held 28 v d p) (hw : Within 28 (d, p)) :
    ∃ o : EV, v = .agg #[.string o.p, .int .u64 o.v, .int .i64 o.k, .slice o.x.A o.x.l.length o.x.c] ∧ o.ok w (fun b => b < w.heap.size) := by
  obtain ⟨cs, rfl, hsz⟩ := okWide_struct Try.underlying28 hv
  obtain ⟨l⟩ := cs
  obtain ⟨n, hn⟩ := h
  obtain ⟨o, e, ho⟩ := open_ent (cs := l) hn hw
  subst e
  exact ⟨o, rfl, ho⟩
set_option maxRecDepth 100000 in
theorem open_ents {n : Nat} {v : Value} {x : DataW H × List MemPlace} (h : DataW.trod enc Try.prog w 0 spare held n 22 [v] = some x) (hw : Within 22 x) :
    ∃ (A : Option Addr) (c : Nat) (l : List EV), v = .slice A l.length c ∧ Ents w (fun b => b < w.heap.size) A l := by
  obtain ⟨A, c, l, rfl, _, _, h3, h4, h5⟩ := open_sl (w := w) (enc := enc) (spare := spare) (held := held) EV.cells (fun o => o.ok w (fun b => b < w.heap.size)) 4 56 (t := 22) (e := 28) Try.underlying22 (by kernel_rfl) (by kernel_rfl) (by omega) (fun n cs x hx hx2 => open_ent hx hx2) h hw
  refine ⟨A, c, l, rfl, h3, h4, ?_⟩
  have := reachBytes_lt
  omega
end
end Go.Proofs.Ytdnljmncdbcgeaa

/- Arguments opened: strings. -/
namespace Go.Proofs.Ytdnljmncdbcgeaa
open Go.RowKit Go.WideShapes Go.ChangeShapes Go.ChangeAt Go.ChangeMaps

section
variable {H : Type} {enc : TypeId × Value → H} {w : World} {spare : Nat → Bool} {held : Bool}
set_option maxRecDepth 100000 in
/-- a string -/
theorem open_str {r : Reach} {b0 : Nat} {v : Value} {d : DataW H} {p : List MemPlace} (hv : Value.okWide Try.prog w r b0 9 v) (h : DataW.Trod enc Try.prog w 0 spare held 9 v d p) (hw : Within 9 (d, p)) :
    ∃ s : ByteArray, v = .string s ∧ s.size ≤ 140737488355328 := by
  obtain ⟨s, rfl, hd, _, _⟩ := open_string Try.underlying9 hv h
  refine ⟨s, rfl, ?_⟩
  have h1 := hw s.data.toList.length (by rw [hd]; simp [DataW.weights])
  have h2 := reachBytes_lt
  have h3 : s.data.toList.length = s.size := tl_len s
  omega
end

end Go.Proofs.Ytdnljmncdbcgeaa
