/- BookPlays is true for every input: whatever entries come, one after the other, what each is answered, and what the book has, whole and in rows, is the document's. No condition beyond the row's own. -/
import Derived.Test.YtdnljmncdbcgeaaA10
import Derived.Laws.StructEq
import Derived.ChangeMaps5

namespace Go.Proofs.Ytdnljmncdbcgeaa
open Go.RowKit Go.Maps

theorem OwRw.at_ {w : World} {base : Nat} {A : Option Addr} {c : Nat} {l : List (List UInt8 × EP)} {i : Nat} (h : OwRw w base A c l) (hi : i < l.length) :
    ∃ b off, A = some ⟨b, off, none⟩ ∧ b < w.heap.size ∧ w.cell? ⟨b, off + i * 5, none⟩ = some (.string ⟨⟨l[i].1⟩⟩) ∧ w.cell? ⟨b, off + i * 5 + 1, none⟩ = some (.int .i64 l[i].2.2.1) ∧ w.cell? ⟨b, off + i * 5 + 2, none⟩ = some (.int .u64 l[i].2.1) ∧ w.cell? ⟨b, off + i * 5 + 3, none⟩ = some (.int .u64 0) ∧ w.cell? ⟨b, off + i * 5 + 4, none⟩ = some (.int .i64 (l[i].2.2.2.length : Int)) := by
  have hr : Rd w (fun _ => True) 5 A l.length (l.flatMap rowC) := Rd.of_own h (fun _ _ _ => trivial)
  obtain ⟨b, off, hA, _, hb, hc⟩ := hr.2 (by omega)
  have hg : ∀ j, j < 5 → (l.flatMap rowC)[i * 5 + j]? = (rowC l[i])[j]? := fun j hj => flat_get (k := 5) rowC_len l i j hi hj
  refine ⟨b, off, hA, hb, hc _ _ (hg 0 (by omega)), ?_, ?_, ?_, ?_⟩
  · rw [Nat.add_assoc]; exact hc _ _ (hg 1 (by omega))
  · rw [Nat.add_assoc]; exact hc _ _ (hg 2 (by omega))
  · rw [Nat.add_assoc]; exact hc _ _ (hg 3 (by omega))
  · rw [Nat.add_assoc]; exact hc _ _ (hg 4 (by omega))
theorem OwRw.below {w w' : World} {base : Nat} {A : Option Addr} {c : Nat} {l : List (List UInt8 × EP)} (h : OwRw w base A c l) (k : Below w.heap.size w w') : OwRw w' base A c l := own_below h k
set_option maxRecDepth 100000 in
theorem neq_row (p : ByteArray) (k v n : Int) (w : World) : (binOp .neq 52 (.agg #[.string p, .int .i64 k, .int .u64 v, .int .u64 0, .int .i64 n]) (.agg #[.string p, .int .i64 k, .int .u64 v, .int .u64 0, .int .i64 n])).run Try.prog w = .ok (.bool false) w := by
  rw [run_neq_struct, run_equalIn_struct _ _ _ _ _ (by kernel_rfl) (by kernel_rfl)]
  simp [go_sem]
theorem rows_all (T : List (List UInt8 × EP)) : rowsGo [] (-1) T [] = ([], !T.isEmpty) := by
  rcases T with _ | ⟨y, T⟩
  · rfl
  · rw [rowsGo_cons, if_neg (by simp [behB]), if_pos (by simp)]
    rfl
theorem rowsGo_len (a : List UInt8) (n : Int) : ∀ (T acc : List (List UInt8 × EP)), (rowsGo a n T acc).1.length ≤ acc.length + T.length
  | [], acc => Nat.le_refl _
  | y :: T, acc => by
    rw [rowsGo_cons]
    split
    · have := rowsGo_len a n T acc
      simp only [List.length_cons]; omega
    · split
      · simp
      · have := rowsGo_len a n T (acc ++ [y])
        simp only [List.length_cons, List.length_append, List.length_nil] at this ⊢; omega
/-- the first entry of a path, plainly -/
theorem find_ep (p : ByteArray) : ∀ M : List EV, (findE p M).pl = (tl p, ((getR (M.map EV.pl) (tl p)).getD (0, 0, [])))
  | [] => rfl
  | x :: M => by
    rw [List.map_cons, getR_cons]
    unfold findE
    by_cases h : x.p = p
    · rw [if_pos h, if_pos (by rw [← h]; rfl)]
      rw [← h]
      rfl
    · rw [if_neg h, if_neg (show ¬ x.pl.1 = tl p from fun e => h (tl_inj e)), find_ep p M]
theorem gotE_pl {w : World} {bb : Nat} {mo : Option Nat} {L : List (List UInt8 × EV)} {s : Int} (h : BookAt w bb mo L s) (p : List UInt8) : (gotE L p).pl = (p, ((getR (plainB L) p).getD (0, 0, []))) := by
  unfold gotE
  rw [get_plainB]
  rcases hg : getR L p with _ | o
  · rfl
  · have := (h.ok _ (getR_mem hg)).p
    show o.pl = _
    unfold EV.pl
    rw [this]
    rfl
theorem find_ok {w : World} {A : Option Addr} {M : List EV} (h : EsR w A M) (p : ByteArray) : (findE p M).x.ok w (fun _ => True) := by
  have : ∀ M : List EV, (∀ x ∈ M, x.x.ok w (fun _ => True)) → (findE p M).x.ok w (fun _ => True) := by
    intro M hM
    induction M with
    | nil => exact ⟨Rd.nil, by simp [findE], by simp [findE, maxLen]⟩
    | cons x M ih =>
      rw [findE_cons]
      split
      · exact hM x (by simp)
      · exact ih (fun y hy => hM y (by simp [hy]))
  exact this M h.ok

set_option maxRecDepth 100000 in
set_option maxHeartbeats 4000000 in
theorem bookPlays_any (A : Option Addr) (c : Nat) (l : List EV) (p : List UInt8) (n : Int) (w : World) (h : Ents w (fun b => b < w.heap.size) A l) (hp : p.length ≤ 140737488355328) (hn : 0 ≤ n ∧ n < 256) :
    Calls Try.prog 4 #[.slice A l.length c, .string ⟨⟨p⟩⟩, .int .u8 n] w fun e w' => e = .returned (.bool true) ∧ Below w.heap.size w w' := by
  have HL := Lib.hid (lightE_any A c l _ _ h)
  have HA := Lib.hid h
  clear h
  rcases hli : lightE l with _ | _
  · rw [hli] at HL
    go_enter Try.func4, Try.ntmps4
    go_wp2_with fail
    refine HL.out.mono ?_
    rintro e w1 ⟨rfl, hw1⟩
    go_wp2_with fail
    refine (lives22_any _).mono ?_
    rintro e w9 ⟨rfl, hb9⟩
    go_wp2_with fail
    go_ret
    exact ⟨rfl, hw1.trans (hb9.mono hw1.size)⟩
  · rw [hli] at HL
    have hla := lightE_all hli
    by_cases hp2 : p.length ≤ 200
    · go_enter Try.func4, Try.ntmps4
      go_wp2_with fail
      refine HL.out.mono ?_
      rintro e w1 ⟨rfl, hw1⟩
      have HPL := Lib.hid (plays22_any A c l _ w1 (HA.out.below hw1) hla)
      clear HL HA
      go_wp2_with fail
      refine HPL.out.mono ?_
      rintro e w3 ⟨bb, mo, L, B, d, M, rfl, hP, hbb, hmo, hb3⟩
      have hw3 := hw1.trans (hb3.mono hw1.size)
      have hba : Below w3.heap.size w3 (w3.alloc (.cells #[.int .u64 0, .slice B M.length d] 33)) := (Below.refl _ _).alloc (Nat.le_refl _) _
      have y4 := Blk.new w3 33 #[.int .u64 0, .slice B M.length d]
      have hw4 := hw3.trans (hba.mono hw3.size)
      have HP4 := Lib.hid (hP.below hba)
      clear HPL hP hb3
      go_upto_region 4 with (fail)
      generalize w3.alloc (.cells #[.int .u64 0, .slice B M.length d] 33) = w4 at *
      generalize hT : playB [] (l.map EV.pl) = T at *
      have hlm : L.length = M.length := by
        have h1 := congrArg List.length HP4.out.plain.out
        have h2 := congrArg List.length HP4.out.same.out
        rw [plainB_len] at h1
        rw [List.length_map] at h2
        omega
      have hlmb : ((L.length : Int) != (M.length : Int)) = false := by simp; omega
      have hML : M.length ≤ 256 := by have := HP4.out.book.len; omega
      have HLM := Lib.hid hlm
      clear hba hT hlm
      refine wp_region_p [(0, true), (1, true), (2, true), (3, true), (5, true), (6, true), (7, true), (4, false), (8, true), (9, true), (10, true), (11, true), (13, true), (14, true), (12, false), (15, false), (16, true), (17, true), (18, true), (19, true), (20, true), (22, true), (23, true), (21, false), (24, false), (25, false), (26, true), (27, true)] (fun W => Below w4.heap.size w4 W) (by kernel_rfl) (by kernel_rfl) ?_
      simp only [List.map_cons, List.map_nil, List.filterMap_cons, List.filterMap_nil, List.getElem?_cons_zero, List.getElem?_cons_succ, List.length_cons, List.length_nil, Nat.zero_add, Nat.reduceAdd, List.drop_succ_cons, List.drop_zero]
      refine mx_move _ (by kernel_rfl) rfl ⟨_, (by ((try simp [go_sem]); (try rfl); done)), _, (by (simp only [Act.put, List.setIfInBounds_toArray, List.set_cons_zero, List.set_cons_succ]; rfl)), ?_⟩
      refine mx_val (by kernel_rfl) ⟨_, (by (intro w' hC; clear hC; (try go_simp); (try with_reducible rfl); done)), _, (by (simp only [Act.put, List.setIfInBounds_toArray, List.set_cons_zero, List.set_cons_succ]; rfl)), ?_⟩
      refine mx_move _ (by kernel_rfl) rfl ⟨_, (by ((try simp [go_sem]); (try rfl); done)), _, (by (simp only [Act.put, List.setIfInBounds_toArray, List.set_cons_zero, List.set_cons_succ]; rfl)), ?_⟩
      refine mx_move _ (by kernel_rfl) rfl ⟨_, (by ((try simp [go_sem]); (try rfl); done)), _, (by (simp only [Act.put, List.setIfInBounds_toArray, List.set_cons_zero, List.set_cons_succ]; rfl)), ?_⟩
      refine mx_val (by kernel_rfl) ⟨_, (by (intro w' hC; clear hC; (try go_simp); (try with_reducible rfl); done)), _, (by (simp only [Act.put, List.setIfInBounds_toArray, List.set_cons_zero, List.set_cons_succ]; rfl)), ?_⟩
      refine mx_val (by kernel_rfl) ⟨_, (by (intro w' hC; (have q0 := (y4.below hC).cell 0; have q1 := (y4.below hC).cell 1; simp only [List.getElem?_toArray, List.getElem?_cons_zero, List.getElem?_cons_succ] at q0 q1); clear hC; (try go_simp); (try with_reducible rfl); done)), _, (by (simp only [Act.put, List.setIfInBounds_toArray, List.set_cons_zero, List.set_cons_succ]; rfl)), ?_⟩
      refine mx_val (by kernel_rfl) ⟨_, (by (intro w' hC; clear hC; (try go_simp); (try with_reducible rfl); done)), _, (by (simp only [Act.put, List.setIfInBounds_toArray, List.set_cons_zero, List.set_cons_succ]; rfl)), ?_⟩
      refine mx_call ((Below.refl _ _).drew) (by kernel_rfl) ?_ (bookLen_any bb mo L 0 w4.drew (HP4.out.book.below (Below.refl _ _).drew)) ?_
      · (go_simp; done)
      rintro e wa ⟨rfl, rfl⟩
      refine ⟨_, rfl, _, (by (simp only [Act.put, List.setIfInBounds_toArray, List.set_cons_zero, List.set_cons_succ]; rfl)), ?_⟩
      refine mx_val (by kernel_rfl) ⟨_, (by (intro w' hC; clear hC; (try go_simp); (try with_reducible rfl); done)), _, (by (simp only [Act.put, List.setIfInBounds_toArray, List.set_cons_zero, List.set_cons_succ]; rfl)), ?_⟩
      refine mx_val (by kernel_rfl) ⟨_, (by (intro w' hC; clear hC; (try go_simp); (try with_reducible rfl); done)), _, (by (simp only [Act.put, List.setIfInBounds_toArray, List.set_cons_zero, List.set_cons_succ]; rfl)), ?_⟩
      refine mx_move _ (by kernel_rfl) rfl ⟨_, (by ((try simp [go_sem]); (try rfl); done)), _, (by (simp only [Act.put, List.setIfInBounds_toArray, List.set_cons_zero, List.set_cons_succ]; rfl)), ?_⟩
      refine mx_move _ (by kernel_rfl) rfl ⟨_, (by ((try simp [go_sem]); (try rfl); done)), _, (by (simp only [Act.put, List.setIfInBounds_toArray, List.set_cons_zero, List.set_cons_succ]; rfl)), ?_⟩
      refine mx_val (by kernel_rfl) ⟨_, (by (intro w' hC; clear hC; (try go_simp); (try with_reducible rfl); done)), _, (by (simp only [Act.put, List.setIfInBounds_toArray, List.set_cons_zero, List.set_cons_succ]; rfl)), ?_⟩
      refine mx_val (by kernel_rfl) ⟨_, (by (intro w' hC; (have q0 := (y4.below hC).cell 0; have q1 := (y4.below hC).cell 1; simp only [List.getElem?_toArray, List.getElem?_cons_zero, List.getElem?_cons_succ] at q0 q1); clear hC; (try go_simp); (try with_reducible rfl); done)), _, (by (simp only [Act.put, List.setIfInBounds_toArray, List.set_cons_zero, List.set_cons_succ]; rfl)), ?_⟩
      refine mx_call ((Below.refl _ _).drew) (by kernel_rfl) ?_ (bookEntries_any bb mo L 0 w4.drew (HP4.out.book.below (Below.refl _ _).drew)) ?_
      · (go_simp; done)
      rintro e wb ⟨A5, c5, M5, rfl, hM5, hO5, hb5⟩
      have hcb : Below w4.heap.size w4 wb := ((Below.refl _ _).drew).trans hb5
      have hM5l : M5.length ≤ 256 := by
        have := congrArg List.length hM5.out
        rw [List.length_map, plainB_len] at this
        have := HP4.out.book.len
        omega
      have HSM := Lib.hid (refSame22_any A5 B c5 d M5 M wb (hO5.esr (by omega)) (HP4.out.es.below hcb))
      rw [hM5.out, HP4.out.plain.out, HP4.out.same.out, show ∀ (z : List (List UInt8 × EP)), decide (z = z) = true from fun z => by simp] at HSM
      clear hM5 hO5
      refine ⟨_, rfl, _, (by (simp only [Act.put, List.setIfInBounds_toArray, List.set_cons_zero, List.set_cons_succ]; rfl)), ?_⟩
      refine mx_call (hcb) (by kernel_rfl) ?_ (HSM.out) ?_
      · (go_simp; done)
      rintro e wc ⟨rfl, hb6⟩
      have hcc : Below w4.heap.size w4 wc := hcb.trans (hb6.mono hcb.size)
      clear HSM
      refine ⟨_, rfl, _, (by (simp only [Act.put, List.setIfInBounds_toArray, List.set_cons_zero, List.set_cons_succ]; rfl)), ?_⟩
      refine mx_val (by kernel_rfl) ⟨_, (by (intro w' hC; clear hC; (try go_simp); (try with_reducible rfl); done)), _, (by (simp only [Act.put, List.setIfInBounds_toArray, List.set_cons_zero, List.set_cons_succ]; rfl)), ?_⟩
      refine mx_val (by kernel_rfl) ⟨_, (by (intro w' hC; clear hC; (try go_simp); (try with_reducible rfl); done)), _, (by (simp only [Act.put, List.setIfInBounds_toArray, List.set_cons_zero, List.set_cons_succ]; rfl)), ?_⟩
      refine mx_move _ (by kernel_rfl) rfl ⟨_, (by ((try simp [go_sem]); (try rfl); done)), _, (by (simp only [Act.put, List.setIfInBounds_toArray, List.set_cons_zero, List.set_cons_succ]; rfl)), ?_⟩
      refine mx_move _ (by kernel_rfl) rfl ⟨_, (by ((try simp [go_sem]); (try rfl); done)), _, (by (simp only [Act.put, List.setIfInBounds_toArray, List.set_cons_zero, List.set_cons_succ]; rfl)), ?_⟩
      refine mx_move _ (by kernel_rfl) rfl ⟨_, (by ((try simp [go_sem]); (try rfl); done)), _, (by (simp only [Act.put, List.setIfInBounds_toArray, List.set_cons_zero, List.set_cons_succ]; rfl)), ?_⟩
      refine mx_val (by kernel_rfl) ⟨_, (by (intro w' hC; (have q0 := (y4.below hC).cell 0; have q1 := (y4.below hC).cell 1; simp only [List.getElem?_toArray, List.getElem?_cons_zero, List.getElem?_cons_succ] at q0 q1); clear hC; (try go_simp); (try with_reducible rfl); done)), _, (by (simp only [Act.put, List.setIfInBounds_toArray, List.set_cons_zero, List.set_cons_succ]; rfl)), ?_⟩
      refine mx_move _ (by kernel_rfl) rfl ⟨_, (by ((try simp [go_sem]); (try rfl); done)), _, (by (simp only [Act.put, List.setIfInBounds_toArray, List.set_cons_zero, List.set_cons_succ]; rfl)), ?_⟩
      refine mx_call (hcc) (by kernel_rfl) ?_ (bookGet_any bb mo L 0 p wc (HP4.out.book.below hcc) (by simp only [maxLen]; omega)) ?_
      · (go_simp; done)
      rintro e wd ⟨q5, v5, k5, A6, c6, l6, rfl, hg5, ho5, hb7⟩
      have hcd : Below w4.heap.size w4 wd := hcc.trans (hb7.mono hcc.size)
      refine ⟨_, rfl, _, (by (simp only [Act.put, List.setIfInBounds_toArray, List.set_cons_zero, List.set_cons_succ]; rfl)), ?_⟩
      refine mx_call (hcd) (by kernel_rfl) ?_ (refGet22_any B d M 0 ⟨⟨p⟩⟩ wd (HP4.out.es.below hcd)) ?_
      · (go_simp; done)
      rintro e we ⟨⟨o, rfl, ho⟩, hb8⟩
      have hce : Below w4.heap.size w4 we := hcd.trans (hb8.mono hcd.size)
      have hoo : o.x.ok we (fun _ => True) := by rw [ho.out]; exact find_ok (HP4.out.es.below hce) _
      have HS2 := Lib.hid (refEntrySame_any q5 o.p v5 o.v k5 o.k A6 o.x.A c6 o.x.c l6 o.x.l _ _ we ((ho5.rd).below hb8) hoo.1)
      have hsame : sameE (tl q5) (tl o.p) v5 o.v k5 o.k l6 o.x.l = true := by
        obtain ⟨e1, e2, e3, e4⟩ := hg5.out
        rw [e1, e2, e3, e4, sameE_pl, ho.out, gotE_pl HP4.out.book p, find_ep, HP4.out.plain.out, HP4.out.same.out]
        simp
      rw [hsame] at HS2
      clear hg5 ho5 ho hoo hsame
      refine ⟨_, rfl, _, (by (simp only [Act.put, List.setIfInBounds_toArray, List.set_cons_zero, List.set_cons_succ]; rfl)), ?_⟩
      refine mx_call (hce) (by kernel_rfl) ?_ (HS2.out) ?_
      · (go_simp; done)
      rintro e wf ⟨rfl, hb9⟩
      have hcf : Below w4.heap.size w4 wf := hce.trans (hb9.mono hce.size)
      clear HS2
      refine ⟨_, rfl, _, (by (simp only [Act.put, List.setIfInBounds_toArray, List.set_cons_zero, List.set_cons_succ]; rfl)), ?_⟩
      refine mx_val (by kernel_rfl) ⟨_, (by (intro w' hC; clear hC; (try go_simp); (try with_reducible rfl); done)), _, (by (simp only [Act.put, List.setIfInBounds_toArray, List.set_cons_zero, List.set_cons_succ]; rfl)), ?_⟩
      refine mx_val (by kernel_rfl) ⟨_, (by (intro w' hC; clear hC; (try go_simp); (try with_reducible rfl); done)), _, (by (simp only [Act.put, List.setIfInBounds_toArray, List.set_cons_zero, List.set_cons_succ]; rfl)), ?_⟩
      refine mx_end hcf ?_
      have hw5 := hw4.trans (hcf.mono hw4.size)
      replace y4 := y4.below hcf
      have HP5 := Lib.hid (HP4.out.below hcf)
      clear HP4 hcb hcc hcd hce hcf hb5 hb6 hb7 hb8 hb9 HLM hlmb
      have p0 := y4.cell 0
      have p1 := y4.cell 1
      simp only [List.getElem?_toArray, List.getElem?_cons_zero, List.getElem?_cons_succ] at p0 p1
      have HMP : Hid (∀ x ∈ M, x.p.size ≤ 1048576) := Lib.hid (fun x hx => by
        have h1 := checkP_good (HP5.out.ok.good x.pl (by rw [← HP5.out.same.out]; exact List.mem_map.2 ⟨x, hx, rfl⟩))
        have h2 := goodB_len (userB_good h1.1)
        have h3 : x.pl.1 = tl x.p := rfl
        rw [h3, tl_len] at h2
        omega)
      have hTl : T.length = M.length := by rw [← HP5.out.same.out]; simp
      go_wp2_with fail
      refine (bookRows_any bb mo L 0 p (n % 12) wf HP5.out.book (by omega)).mono ?_
      rintro e w6 ⟨⟨A6, c6, l6, b6, rfl, hl6, ho6⟩, hb6⟩
      rw [HP5.out.plain.out] at hl6
      have hw6 := hw5.trans (hb6.mono hw5.size)
      replace y4 := y4.below hb6
      have HP6 := Lib.hid (HP5.out.below hb6)
      clear p0 p1 HP5 hb6
      have p0 := y4.cell 0
      have p1 := y4.cell 1
      simp only [List.getElem?_toArray, List.getElem?_cons_zero, List.getElem?_cons_succ] at p0 p1
      go_wp2_with fail
      refine (refRows22_any B d M 0 p (n % 12) w6 HP6.out.es (by omega) HMP.out).mono ?_
      rintro e w7 ⟨⟨A7, c7, l7, b7, rfl, hl7, ho7⟩, hb7⟩
      rw [HP6.out.same.out] at hl7
      have hw7 := hw6.trans (hb7.mono hw6.size)
      replace y4 := y4.below hb7
      have HP7 := Lib.hid (HP6.out.below hb7)
      have HO6 := Lib.hid (ho6.below hb7)
      have HO7 := Lib.hid ho7
      obtain ⟨rfl, rfl⟩ : l6 = l7 ∧ b6 = b7 := by
        have := hl6.out.trans hl7.out.symm
        simpa using this
      have hl6l : l6.length ≤ 256 := by
        have := rowsGo_len p (n % 12) T []
        rw [← hl6.out] at this
        simp at this
        omega
      clear p0 p1 HP6 hb7 ho6 ho7 hl6 hl7
      go_wp2_with fail
      go_loopw [91] (fun iv wr => ∃ i : Nat, i ≤ l6.length ∧ iv = .int .i64 (i : Int) ∧ Below w7.heap.size w7 wr) (fun iv _ => l6.length - (intOf iv).toNat)
      case atStart => exact ⟨0, Nat.zero_le _, rfl, Below.refl _ _⟩
      case round =>
        obtain ⟨i, hi, rfl, hb⟩ := hrel
        have hbr := hw7.trans (hb.mono hw7.size)
        by_cases hlt : i < l6.length
        · obtain ⟨b1, off1, hA1, hbb1, c0, c1, c2, c3, c4⟩ := (HO6.out.below hb).at_ hlt
          obtain ⟨b2, off2, hA2, hbb2, f0, f1, f2, f3, f4⟩ := (HO7.out.below hb).at_ hlt
          generalize l6[i] = y at *
          have hba : Below wr.heap.size wr (wr.alloc (.cells #[.string ⟨⟨y.1⟩⟩, .int .i64 y.2.2.1, .int .u64 y.2.1, .int .u64 0, .int .i64 (y.2.2.2.length : Int)] 52)) := (Below.refl _ _).alloc (Nat.le_refl _) _
          have z9 := Blk.new wr 52 #[.string ⟨⟨y.1⟩⟩, .int .i64 y.2.2.1, .int .u64 y.2.1, .int .u64 0, .int .i64 (y.2.2.2.length : Int)]
          have d0 := cellAt hba hbb2 f0
          have d1 := cellAt hba hbb2 f1
          have d2 := cellAt hba hbb2 f2
          have d3 := cellAt hba hbb2 f3
          have d4 := cellAt hba hbb2 f4
          have hbA : b2 < (wr.alloc (.cells #[.string ⟨⟨y.1⟩⟩, .int .i64 y.2.2.1, .int .u64 y.2.1, .int .u64 0, .int .i64 (y.2.2.2.length : Int)] 52)).heap.size := by simp; omega
          have hw9 := hb.trans (hba.mono hb.size)
          have HNE := Lib.hid (fun W => neq_row ⟨⟨y.1⟩⟩ y.2.2.1 y.2.1 (y.2.2.2.length : Int) W)
          subst hA1
          subst hA2
          clear f0 f1 f2 f3 f4
          go_upto_region 13 with (fail)
          generalize wr.alloc (.cells #[.string ⟨⟨y.1⟩⟩, .int .i64 y.2.2.1, .int .u64 y.2.1, .int .u64 0, .int .i64 (y.2.2.2.length : Int)] 52) = w9 at *
          clear hba c0 c1 c2 c3 c4
          refine wp_region_b 6 (by kernel_rfl) (by kernel_rfl) ?_
          simp only [List.take_succ_cons, List.take_zero, List.drop_succ_cons, List.drop_zero]
          refine lb_val (by kernel_rfl) ⟨_, (by (intro w' hC; (have e0 := (z9.below hC).cell 0; have e1 := (z9.below hC).cell 1; have e2 := (z9.below hC).cell 2; have e3 := (z9.below hC).cell 3; have e4 := (z9.below hC).cell 4; simp only [List.getElem?_toArray, List.getElem?_cons_zero, List.getElem?_cons_succ] at e0 e1 e2 e3 e4); clear hC; (try go_simp); (try with_reducible rfl); done)), _, (by (simp only [Act.put, List.setIfInBounds_toArray, List.set_cons_zero, List.set_cons_succ]; rfl)), ?_⟩
          refine lb_move _ (by kernel_rfl) rfl ⟨_, (by ((try simp [go_sem]); (try rfl); done)), _, (by (simp only [Act.put, List.setIfInBounds_toArray, List.set_cons_zero, List.set_cons_succ]; rfl)), ?_⟩
          refine lb_move _ (by kernel_rfl) rfl ⟨_, (by ((try simp [go_sem]); (try rfl); done)), _, (by (simp only [Act.put, List.setIfInBounds_toArray, List.set_cons_zero, List.set_cons_succ]; rfl)), ?_⟩
          refine lb_val (by kernel_rfl) ⟨_, (by (intro w' hC; clear hC; (try go_simp); (try with_reducible rfl); done)), _, (by (simp only [Act.put, List.setIfInBounds_toArray, List.set_cons_zero, List.set_cons_succ]; rfl)), ?_⟩
          refine lb_val (by kernel_rfl) ⟨_, (by (intro w' hC; (have e0 := cellAt hC hbA d0; have e1 := cellAt hC hbA d1; have e2 := cellAt hC hbA d2; have e3 := cellAt hC hbA d3; have e4 := cellAt hC hbA d4); clear hC; (try go_simp); (try with_reducible rfl); done)), _, (by (simp only [Act.put, List.setIfInBounds_toArray, List.set_cons_zero, List.set_cons_succ]; rfl)), ?_⟩
          refine lb_val (by kernel_rfl) ⟨_, (by (intro w' hC; (have q := HNE.out w'); clear hC; (try go_simp); (try with_reducible rfl); done)), _, (by (simp only [Act.put, List.setIfInBounds_toArray, List.set_cons_zero, List.set_cons_succ]; rfl)), ?_⟩
          refine .nil ?_
          intro w10 hb10
          have hw10 := hw9.trans (hb10.mono hw9.size)
          clear hb10 z9 d0 d1 d2 d3 d4
          go_wp2_with fail
          go_roundw
          case rel => exact ⟨i + 1, hlt, by go_num, hw10⟩
          case measure => simp [intOf]; omega
        · have e : i = l6.length := by omega
          subst e
          have hr := bookRows_any bb mo L 0 [] (-1) wr (HP7.out.book.below hb) (by simp)
          rw [HP7.out.plain.out, rows_all] at hr
          have HRR := Lib.hid hr
          replace y4 := y4.below hb
          have hM0 : (!T.isEmpty) = decide (0 < (M.length : Int)) := by
            rcases T with _ | ⟨z, T⟩
            · have : M.length = 0 := by simpa using hTl.symm
              rw [this]; rfl
            · have : M.length = T.length + 1 := by simpa using hTl.symm
              rw [this]; simp
          rw [hM0] at HRR
          have hm2 : decide (0 < M.length) = decide (0 < (M.length : Int)) := by simp
          generalize hmd : decide (0 < (M.length : Int)) = mB at *
          clear hr hM0 HO6 HO7 HP7
          go_wp2_with fail
          refine HRR.out.mono ?_
          rintro e w11 ⟨⟨A8, c8, l8, b8, rfl, hl8, _⟩, hb11⟩
          obtain ⟨rfl, rfl⟩ : l8 = [] ∧ b8 = mB := by simpa using hl8.out
          have hw11 := hbr.trans (hb11.mono hbr.size)
          replace y4 := y4.below hb11
          have p0 := y4.cell 0
          have p1 := y4.cell 1
          simp only [List.getElem?_toArray, List.getElem?_cons_zero, List.getElem?_cons_succ] at p0 p1
          clear hl8 hb11 HRR
          go_wp2_with fail
          refine (lives22_any _).mono ?_
          rintro e w12 ⟨rfl, hb12⟩
          have hw12 := hw11.trans (hb12.mono hw11.size)
          go_wp2_with fail
          go_ret
          exact ⟨rfl, hw12⟩
    · have hp3 : decide ((200 : Int) < (p.length : Int)) = true := decide_eq_true (by omega)
      go_enter Try.func4, Try.ntmps4
      go_wp2_with fail
      refine HL.out.mono ?_
      rintro e w1 ⟨rfl, hw1⟩
      go_wp2_with fail
      refine (lives22_any _).mono ?_
      rintro e w9 ⟨rfl, hb9⟩
      go_wp2_with fail
      go_ret
      exact ⟨rfl, hw1.trans (hb9.mono hw1.size)⟩

end Go.Proofs.Ytdnljmncdbcgeaa

/- tenderref03: Under. -/
namespace Go.Proofs.Ytdnljmncdbcgeaa
open Go.RowKit

theorem refGood_yes (s : ByteArray) (hs : s.size ≤ 9223372036854775807) (h : goodB (tl s) = true) (w : World) : Calls Try.prog 127 #[.string s] w fun e w' => e = .returned (.bool true) ∧ Below w.heap.size w w' := by
  have := refGood_any s hs w
  rwa [h] at this
theorem refGood_no (s : ByteArray) (hs : s.size ≤ 9223372036854775807) (h : goodB (tl s) = false) (w : World) : Calls Try.prog 127 #[.string s] w fun e w' => e = .returned (.bool false) ∧ Below w.heap.size w w' := by
  have := refGood_any s hs w
  rwa [h] at this
/-- by parts -/
theorem preB_parts (p top : List UInt8) : preB p top = (decide ((cutL top).length < (cutL p).length) && ((cutL p).take (cutL top).length == cutL top)) := by
  rw [Bool.eq_iff_iff, preB_iff]
  simp only [Bool.and_eq_true, decide_eq_true_eq, beq_iff_eq]
  constructor
  · rintro ⟨T, hT, e⟩
    rw [e]
    have := List.length_pos_iff.2 hT
    exact ⟨by rw [List.length_append]; omega, List.take_left' rfl⟩
  · rintro ⟨h1, h2⟩
    refine ⟨(cutL p).drop (cutL top).length, fun e => ?_, ?_⟩
    · have := List.drop_eq_nil_iff.1 e
      omega
    · conv => lhs; rw [← List.take_append_drop (cutL top).length (cutL p), h2]

set_option maxRecDepth 100000 in
set_option maxHeartbeats 1000000 in
theorem refUnder_any (p top : ByteArray) (hp : p.size ≤ 9223372036854775807) (ht : top.size ≤ 9223372036854775807) (w : World) : Calls Try.prog 164 #[.string p, .string top] w fun e w' => e = .returned (.bool (underB (tl p) (tl top))) ∧ Below w.heap.size w w' := by
  obtain ⟨M, hM⟩ : ∃ M, M = underB (tl p) (tl top) := ⟨_, rfl⟩
  rw [← hM]
  cases gp : goodB (tl p)
  · have HP := Lib.hid (refGood_no p hp gp)
    have HM : Hid (M = false) := by show _ = _; rw [hM]; unfold underB; rw [gp]; rfl
    clear gp hM
    go_enter Try.func164, Try.ntmps164
    go_wp2_with fail
    refine (HP.out _).mono ?_
    rintro e w1 ⟨rfl, hb1⟩
    go_wp2_with fail
    go_ret
    exact ⟨ret_b HM.out.symm, hb1⟩
  have HP := Lib.hid (refGood_yes p hp gp)
  cases gt : goodB (tl top)
  · have HT := Lib.hid (refGood_no top ht gt)
    have HM : Hid (M = false) := by show _ = _; rw [hM]; unfold underB; rw [gp, gt]; rfl
    clear gp gt hM
    go_enter Try.func164, Try.ntmps164
    go_wp2_with fail
    refine (HP.out _).mono ?_
    rintro e w1 ⟨rfl, hb1⟩
    go_wp2_with fail
    refine (HT.out _).mono ?_
    rintro e w2 ⟨rfl, hb2⟩
    go_wp2_with fail
    go_ret
    exact ⟨ret_b HM.out.symm, bthen hb1 hb2⟩
  have HT := Lib.hid (refGood_yes top ht gt)
  have hp96 := goodB_len gp
  have ht96 := goodB_len gt
  rw [tl_len] at hp96 ht96
  have HM : Hid (M = (decide ((cutL (tl top)).length < (cutL (tl p)).length) && ((cutL (tl p)).take (cutL (tl top)).length == cutL (tl top)))) := by
    show _ = _; rw [hM]; unfold underB; rw [gp, gt, preB_parts]; rfl
  clear gp gt hM
  go_enter Try.func164, Try.ntmps164
  go_wp2_with fail
  refine (HP.out _).mono ?_
  rintro e w1 ⟨rfl, hb1⟩
  go_wp2_with fail
  refine (HT.out _).mono ?_
  rintro e w2 ⟨rfl, hb2⟩
  replace hb2 := bthen hb1 hb2
  go_wp2_with fail
  refine (refCut_any p (by omega) _).mono ?_
  rintro e w3 ⟨A, c, x, rfl, hx, hsx, hb3⟩
  replace hb3 := bthen hb2 hb3
  go_wp2_with fail
  refine (refCut_any top (by omega) _).mono ?_
  rintro e w4 ⟨A', c', y, rfl, hy, hsy, hb4⟩
  replace hsx := hsx.below hb4
  replace hb4 := bthen hb3 hb4
  have hxl : x.length ≤ 97 := by
    have := cutL_len (tl p)
    rw [hx.out]
    rw [tl_len] at this
    omega
  have hyl : y.length ≤ 97 := by
    have := cutL_len (tl top)
    rw [hy.out]
    rw [tl_len] at this
    omega
  have HR2 : Hid (M = (decide (y.length < x.length) && (x.take y.length == y))) := by show _ = _; rw [HM.out, hx.out, hy.out]
  clear HM hx hy hb1 hb2 hb3
  by_cases hle : x.length ≤ y.length
  · go_wp2_with fail
    go_ret
    refine ⟨ret_b ?_, hb4⟩
    rw [HR2.out, decide_eq_false (by omega)]; rfl
  · have hgt : (y.length : Int) < (x.length : Int) := by omega
    go_wp2_with fail
    go_loopw [7] (fun iv wr => ∃ i : Nat, i ≤ y.length ∧ iv = .int .i64 (i : Int) ∧ Hid (x.take i = y.take i) ∧ Qt w4 wr) (fun iv _ => y.length - (intOf iv).toNat)
    case atStart => exact ⟨0, Nat.zero_le _, rfl, rfl, Qt.refl _⟩
    case round =>
      obtain ⟨i, hi, rfl, hz, hq⟩ := hrel
      by_cases hlt : i < y.length
      · obtain ⟨xi, hxi⟩ : ∃ z, x[i]? = some z := ⟨_, List.getElem?_eq_getElem (by omega)⟩
        obtain ⟨yi, hyi⟩ : ∃ z, y[i]? = some z := ⟨_, List.getElem?_eq_getElem hlt⟩
        obtain ⟨g, off, rfl, hgb, hgl, hcell, hfz⟩ := (hsx.below hq.below).get hxi
        obtain ⟨g', off', rfl, hgb', hgl', hcell', hfz'⟩ := (hsy.below hq.below).get hyi
        have HN : Hid (xi = yi → x.take (i + 1) = y.take (i + 1)) := by
          intro e
          rw [List.take_add_one, List.take_add_one, hz.out, hxi, hyi, e]
        have HD : Hid (xi ≠ yi → M = false) := by
          intro hne
          rw [HR2.out, Bool.and_eq_false_iff]
          right
          rw [beq_eq_false_iff_ne]
          intro e
          have h1 : (x.take y.length)[i]? = x[i]? := by rw [List.getElem?_take, if_pos hlt]
          rw [e, hxi, hyi] at h1
          injection h1 with h1
          exact hne h1.symm
        have b1 : (i : Int) < (x.length : Int) := by omega
        clear hxi hyi hz hfz hfz'
        unfold stv at hcell hcell'
        by_cases hxy : xi = yi
        · have hn : (!xi == yi) = false := by simp [hxy]
          have HN2 := Lib.hid (HN.out hxy)
          clear HN HD hxy
          go_wp2_with fail
          go_quiet (fail)
          go_wp2_with fail
          go_roundw
          case rel => exact ⟨i + 1, hlt, by go_num, HN2.out, hq.trans ⟨_, rfl⟩⟩
          case measure => simp [intOf]; omega
        · have hn : (!xi == yi) = true := by simp [hxy]
          have HD2 := Lib.hid (HD.out hxy)
          clear HN HD hxy
          go_wp2_with fail
          go_quiet (fail)
          go_wp2_with fail
          go_ret
          exact ⟨ret_b HD2.out.symm, bthen hb4 (hq.trans ⟨_, rfl⟩).below⟩
      · go_wp2_with fail
        go_ret
        refine ⟨ret_b ?_, bthen hb4 hq.below⟩
        have e : i = y.length := by omega
        have h2 := hz.out
        rw [e, List.take_length] at h2
        rw [HR2.out, h2, decide_eq_true (by omega)]
        simp
end Go.Proofs.Ytdnljmncdbcgeaa

/- tenderref03: Paste. -/
namespace Go.Proofs.Ytdnljmncdbcgeaa
open Go.RowKit

theorem take_ne {α : Type} {l : List α} {i : Nat} (h0 : i ≠ 0) (h : 0 < l.length) : l.take i ≠ [] := by
  intro e
  rcases List.take_eq_nil_iff.1 e with h1 | h1
  · exact h0 h1
  · rw [h1] at h; simp at h
theorem drop_ne {α : Type} {l : List α} {i : Nat} (h : i < l.length) : l.drop i ≠ [] := by
  intro e
  have := List.drop_eq_nil_iff.1 e
  omega
theorem paste_take_le : ∀ (l : List (List UInt8)) (i : Nat), (pasteL (l.take i)).length ≤ (pasteL l).length
  | l, i => by
    by_cases h : i = 0
    · subst h; simp [pasteL]
    · by_cases h2 : i < l.length
      · conv => rhs; rw [← List.take_append_drop i l, paste_app _ _ (take_ne h (by omega)) (drop_ne h2)]
        simp
      · rw [List.take_of_length_le (by omega)]; exact Nat.le_refl _
theorem paste_one (x : List UInt8) : pasteL [x] = x := rfl

set_option maxRecDepth 100000 in
set_option maxHeartbeats 1000000 in
theorem paste_any (A : Option Addr) (c : Nat) (l : List (List UInt8)) (Z : Nat → Prop) (w : World) (h : Rd w Z 1 A l.length (l.map stv)) (hn : l.length ≤ 1048576) (hl : (pasteL l).length ≤ 1048576) :
    Calls Try.prog 165 #[.slice A l.length c] w fun e w' => ∃ s, e = .returned (.string s) ∧ Hid (tl s = pasteL l) ∧ Qt w w' := by
  go_enter Try.func165, Try.ntmps165
  go_wp2_with fail
  go_loopw [3, 4] (fun sv iv wr => ∃ (i : Nat) (s : ByteArray), i ≤ l.length ∧ iv = .int .i64 (i : Int) ∧ sv = .string s ∧ Hid (tl s = pasteL (l.take i)) ∧ Qt w wr) (fun _ iv _ => l.length - (intOf iv).toNat)
  case atStart => exact ⟨0, ⟨#[]⟩, Nat.zero_le _, rfl, rfl, rfl, Qt.refl _⟩
  case round =>
    obtain ⟨i, s, hi, rfl, rfl, hs, hq⟩ := hrel
    by_cases hlt : i < l.length
    · obtain ⟨b, off, rfl, _, _, hc⟩ := (h.below hq.below).atm hlt
      have ht := paste_take_le l (i + 1)
      have hts : l.take (i + 1) = l.take i ++ [l[i]] := List.take_succ_eq_append_getElem hlt
      have hss := congrArg List.length hs.out
      rw [tl_len] at hss
      obtain ⟨x, hx⟩ : ∃ x, x = l[i] := ⟨_, rfl⟩
      rw [← hx] at hc hts
      unfold stv at hc
      by_cases h0 : i = 0
      · have hst : s.size = 0 := by rw [hss, h0]; rfl
        have HP : Hid (pasteL (l.take (i + 1)) = x) := by show _ = _; rw [hts, h0]; rfl
        rw [HP.out] at ht
        have hi0 : ¬ (0 : Int) < (i : Int) := by omega
        have b1 : s.size + x.length ≤ 9223372036854775807 := by omega
        have HS : Hid (s = ⟨#[]⟩) := tl_inj (List.length_eq_zero_iff.1 (by rw [tl_len]; exact hst))
        clear hts hx hss ht hs hst h0
        go_wp2_with fail
        go_roundw
        case rel => exact ⟨i + 1, _, hlt, by go_num, rfl, by show _ = _; rw [HP.out, HS.out]; rfl, hq⟩
        case measure => simp [intOf]; omega
      · have h1 : (0 : Int) < (i : Int) := by omega
        have HP : Hid (pasteL (l.take (i + 1)) = tl s ++ 47 :: x) := by
          show _ = _
          rw [hts, paste_app _ _ (take_ne h0 (by omega)) (by simp), hs.out, paste_one]
        rw [HP.out, List.length_append, List.length_cons, tl_len] at ht
        have b1 : s.size + 1 ≤ 9223372036854775807 := by omega
        have b2 : s.size + 1 + x.length ≤ 9223372036854775807 := by omega
        clear hts hx hss ht hs h0
        go_wp2_with fail
        go_roundw
        case rel => exact ⟨i + 1, _, hlt, by go_num, rfl, by show _ = _; rw [HP.out, under_short, under_short, List.append_assoc]; rfl, hq⟩
        case measure => simp [intOf]; omega
    · have HT := Lib.hid (show tl s = pasteL l by rw [hs.out, List.take_of_length_le (by omega)])
      clear hs
      go_wp2_with fail
      go_ret
      exact ⟨s, rfl, HT, hq⟩
end Go.Proofs.Ytdnljmncdbcgeaa

/- name.Parent, Ups; tenderref03.Parent, Ups, Same. -/
namespace Go.Proofs.Ytdnljmncdbcgeaa
open Go.RowKit

/-- the path above -/
def parT (p : List UInt8) : List UInt8 × Bool := if goodB p && decide (1 < (cutL p).length) then (pasteL (cutL p).dropLast, true) else ([], false)
theorem last_ways (s : ByteArray) : (Lib.lastIndexByte s 47 = -1 ∧ cutL (tl s) = [tl s]) ∨
    (∃ i : Nat, Lib.lastIndexByte s 47 = (i : Int) ∧ i < s.size ∧ 1 < (cutL (tl s)).length ∧ pasteL (cutL (tl s)).dropLast = tl (s.extract 0 i)) := by
  have hget : ∀ j, j < s.size → (tl s)[j]? = some (s.data[j]!) := by
    intro j hj
    have hj' : j < s.data.size := hj
    rw [List.getElem?_eq_getElem (by rw [tl_len]; exact hj), getElem!_pos s.data j hj']
    rfl
  rcases Lib.lastIndexByte_spec s 47 with ⟨h, hn⟩ | ⟨i, hi, h, hc, hn⟩
  · refine .inl ⟨h, cutL_none fun c hcm => ?_⟩
    obtain ⟨k, hk, rfl⟩ := List.getElem_of_mem hcm
    have hk' : k < s.size := by rwa [tl_len] at hk
    have := hget k hk'
    rw [List.getElem?_eq_getElem hk] at this
    injection this with this
    intro e
    refine hn k hk' ?_
    rw [← this, e]; rfl
  · have h47 : (tl s)[i]? = some 47 := by rw [hget i hi]; congr 1; exact UInt8.toNat_inj.1 (by rw [show (47 : UInt8).toNat = 47 from rfl]; omega)
    have hsp : tl s = (tl s).take i ++ 47 :: (tl s).drop (i + 1) := by
      conv => lhs; rw [← List.take_append_drop i (tl s)]
      obtain ⟨hlt, he⟩ := List.getElem?_eq_some_iff.1 h47
      rw [List.drop_eq_getElem_cons hlt, he]
    have hno : cutL ((tl s).drop (i + 1)) = [(tl s).drop (i + 1)] := by
      refine cutL_none fun c hcm => ?_
      obtain ⟨k, hk, rfl⟩ := List.getElem_of_mem hcm
      rw [List.getElem_drop]
      have hk' : i + 1 + k < s.size := by rw [List.length_drop, tl_len] at hk; omega
      have := hget _ hk'
      rw [List.getElem?_eq_getElem (by rw [tl_len]; exact hk')] at this
      injection this with this
      intro e
      refine hn (i + 1 + k) (by omega) hk' ?_
      rw [← this, e]; rfl
    refine .inr ⟨i, h, hi, ?_, ?_⟩
    · rw [hsp, cut_app, hno, List.length_append]
      have := cutL_pos ((tl s).take i)
      simp; omega
    · conv => lhs; rw [hsp, cut_app, hno]
      rw [List.dropLast_concat, paste_cut, tl_head]

set_option maxRecDepth 100000 in
set_option maxHeartbeats 400000 in
theorem parent_any (s : ByteArray) (hs : s.size ≤ 1048576) (w : World) : Calls Try.prog 161 #[.string s] w fun e w' => ∃ t b, e = .returned (.tuple #[.string t, .bool b]) ∧ Hid ((tl t, b) = parT (tl s)) ∧ Below w.heap.size w w' := by
  obtain ⟨M, hM⟩ : ∃ M, M = parT (tl s) := ⟨_, rfl⟩
  rw [← hM]
  have HX := Lib.hid (fun w => Try.strings_LastIndexByte s 47 (by omega) w)
  rcases last_ways s with ⟨h, hx⟩ | ⟨i, h, hi, hx, hp⟩
  · have HM : Hid (M = ([], false)) := by show _ = _; rw [hM]; unfold parT; rw [hx]; simp
    rw [h] at HX
    clear hM h hx
    go_enter Try.func161, Try.ntmps161
    go_wp2_with fail
    refine (HX.out _).mono ?_
    rintro e w1 ⟨rfl, hw⟩
    subst hw
    go_wp2_with fail
    go_ret2
    exact ⟨_, _, rfl, HM.out.symm, Below.refl _ _⟩
  · rw [h] at HX
    cases hg : goodB (tl s)
    · have HM : Hid (M = ([], false)) := by show _ = _; rw [hM]; unfold parT; rw [hg]; rfl
      have HC := Lib.hid (check_no s (by omega) hg)
      clear hM h hx hg hp
      go_enter Try.func161, Try.ntmps161
      go_wp2_with fail
      refine (HX.out _).mono ?_
      rintro e w1 ⟨rfl, hw⟩
      subst hw
      go_wp2_with fail
      refine (HC.out _).mono ?_
      rintro e w2 ⟨rfl, hb⟩
      go_wp2_with fail
      go_ret2
      exact ⟨_, _, rfl, HM.out.symm, hb⟩
    · have HM : Hid (M = (tl (s.extract 0 i), true)) := by show _ = _; rw [hM]; unfold parT; rw [hg, decide_eq_true hx, hp]; rfl
      have HC := Lib.hid (check_yes s (by omega) hg)
      have b1 : (i : Int) ≤ (s.size : Int) := by omega
      clear hM h hx hg hp
      go_enter Try.func161, Try.ntmps161
      go_wp2_with fail
      refine (HX.out _).mono ?_
      rintro e w1 ⟨rfl, hw⟩
      subst hw
      go_wp2_with fail
      refine (HC.out _).mono ?_
      rintro e w2 ⟨rfl, hb⟩
      go_wp2_with fail
      go_ret2
      exact ⟨_, _, rfl, HM.out.symm, hb⟩
set_option maxRecDepth 100000 in
set_option maxHeartbeats 400000 in
theorem refParent_any (s : ByteArray) (hs : s.size ≤ 1048576) (w : World) : Calls Try.prog 130 #[.string s] w fun e w' => ∃ t, e = .returned (.string t) ∧ Hid (tl t = (parT (tl s)).1) ∧ Below w.heap.size w w' := by
  obtain ⟨M, hM⟩ : ∃ M, M = (parT (tl s)).1 := ⟨_, rfl⟩
  rw [← hM]
  cases hg : goodB (tl s)
  · have HM : Hid (M = []) := by show _ = _; rw [hM]; unfold parT; rw [hg]; rfl
    have HC := Lib.hid (refGood_no s (by omega) hg)
    clear hM hg
    go_enter Try.func130, Try.ntmps130
    go_wp2_with fail
    refine (HC.out _).mono ?_
    rintro e w2 ⟨rfl, hb⟩
    go_wp2_with fail
    go_ret
    exact ⟨_, rfl, HM.out.symm, hb⟩
  · have HM : Hid (M = pasteL (cutL (tl s)).dropLast) := by
      show _ = _
      rw [hM]; unfold parT; rw [hg]
      by_cases h : 1 < (cutL (tl s)).length
      · simp [h]
      · have h1 := cutL_pos (tl s)
        have : (cutL (tl s)).dropLast = [] := List.length_eq_zero_iff.1 (by rw [List.length_dropLast]; omega)
        rw [this]; simp [h, pasteL]
    have HC := Lib.hid (refGood_yes s (by omega) hg)
    have hs96 := goodB_len hg
    rw [tl_len] at hs96
    clear hM hg
    go_enter Try.func130, Try.ntmps130
    go_wp2_with fail
    refine (HC.out _).mono ?_
    rintro e w1 ⟨rfl, hb⟩
    go_wp2_with fail
    refine (refCut_any s (by omega) _).mono ?_
    rintro e w2 ⟨A, c, l, rfl, hl, hst, hb2⟩
    replace hb2 := bthen hb hb2
    rw [← hl.out] at HM
    have hl0 : 0 < l.length := by rw [hl.out]; exact cutL_pos _
    have hll : l.length ≤ 97 := by
      have := cutL_len (tl s)
      rw [hl.out]
      rw [tl_len] at this
      omega
    have hpl : (pasteL l.dropLast).length ≤ 1048576 := by
      have := paste_take_le l (l.length - 1)
      rw [← List.dropLast_eq_take] at this
      have h2 := congrArg (fun x => (pasteL x).length) hl.out
      rw [paste_cut, tl_len] at h2
      omega
    obtain ⟨m, hm⟩ : ∃ m : Nat, l.length = m + 1 := ⟨l.length - 1, by omega⟩
    have hrd := (Sts.rd hst).take (k := m) (by omega)
    have hdl : Hid ((l.map stv).take (m * 1) = l.dropLast.map stv) := by show _ = _; rw [List.dropLast_eq_take, Nat.mul_one, List.map_take, show l.length - 1 = m by omega]
    rw [hdl.out] at hrd
    have hdn : Hid (m = l.dropLast.length) := by show _ = _; rw [List.length_dropLast]; omega
    have hroom := Row.room hst
    have hcap := Row.cap hst
    have hmx : maxLen = 9223372036854775807 := rfl
    rw [hmx] at hcap
    have b0 : (l.length : Int) - 1 = (m : Int) := by omega
    have hw1 : IntKind.i64.wrap ((l.length : Int) - 1) = (m : Int) := by rw [b0]; exact IntWalk.i64_in _ (by omega)
    have b1 : (0 : Int) ≤ (m : Int) := by omega
    have b2 : (m : Int) ≤ (c : Int) := by omega
    have HM1 := Lib.hid hm
    have HRD := Lib.hid hrd
    clear hrd hm hl hdl
    go_wp2_with fail
    rw [hdn.out]
    refine (paste_any A _ l.dropLast _ w2 (by rw [← hdn.out]; exact HRD.out) (by rw [← hdn.out]; omega) hpl).mono ?_
    rintro e w3 ⟨t, rfl, ht, hq⟩
    go_wp2_with fail
    go_ret
    exact ⟨t, rfl, ht.out.trans HM.out.symm, bthen hb2 hq.below⟩

/-- the paths above -/
def upsL (p : List UInt8) : List (List UInt8) := if goodB p then (List.range ((cutL p).length - 1)).map fun n => pasteL ((cutL p).take (n + 1)) else []
/-- so far -/
def upsTo (p : List UInt8) (k : Nat) : List (List UInt8) := (List.range k).map fun n => pasteL ((cutL p).take (n + 1))
theorem upsTo_len (p : List UInt8) (k : Nat) : (upsTo p k).length = k := by simp [upsTo]
theorem upsTo_snoc (p : List UInt8) (k : Nat) : upsTo p (k + 1) = upsTo p k ++ [pasteL ((cutL p).take (k + 1))] := by simp [upsTo, List.range_succ]
/-- at a stroke -/
theorem stroke_at {s : ByteArray} {i : Nat} (hi : i < s.size) (hc : s[i] = 47) : pasteL ((cutL (tl s)).take (cutL ((tl s).take i)).length) = (tl s).take i ∧ (cutL ((tl s).take (i + 1))).length = (cutL ((tl s).take i)).length + 1 := by
  have ht := take_one s i hi
  have hsp : tl s = (tl s).take i ++ 47 :: (tl s).drop (i + 1) := by
    conv => lhs; rw [← List.take_append_drop i (tl s)]
    rw [List.drop_eq_getElem_cons (by rw [tl_len]; exact hi)]
    congr 2
  constructor
  · conv => lhs; rw [hsp, cut_app]
    rw [show (List.take i (List.take i (tl s) ++ 47 :: List.drop (i + 1) (tl s))) = (tl s).take i by rw [← hsp], List.take_left' rfl, paste_cut]
  · rw [ht, cutL_snoc, if_pos hc, List.length_append]; rfl
theorem no_stroke {s : ByteArray} {i : Nat} (hi : i < s.size) (hc : s[i] ≠ 47) : (cutL ((tl s).take (i + 1))).length = (cutL ((tl s).take i)).length := by
  rw [take_one s i hi, cutL_snoc, if_neg hc, List.length_append, List.length_dropLast]
  have := cutL_pos ((tl s).take i)
  simp; omega
end Go.Proofs.Ytdnljmncdbcgeaa

/- name.Ups, tenderref03.Ups, Same. -/
namespace Go.Proofs.Ytdnljmncdbcgeaa
open Go.RowKit

set_option maxRecDepth 100000 in
set_option maxHeartbeats 1000000 in
theorem refSame03_any (A B : Option Addr) (c d : Nat) (l m : List (List UInt8)) (Z Z' : Nat → Prop) (w : World) (hl : Rd w Z 1 A l.length (l.map stv)) (hm : Rd w Z' 1 B m.length (m.map stv)) (hn : l.length ≤ 1099511627776) : Calls Try.prog 34 #[.slice A l.length c, .slice B m.length d] w fun e w' => e = .returned (.bool (l == m)) ∧ Qt w w' := by
  obtain ⟨R, hR⟩ : ∃ R, R = (l == m) := ⟨_, rfl⟩
  rw [← hR]
  by_cases hlen : l.length = m.length
  · have HR := Lib.hid hR
    clear hR
    have hq0 : ((l.length : Int) != (m.length : Int)) = false := by simp [hlen]
    have h1 : (l.length : Int) = (m.length : Int) := by omega
    have H1 := Lib.hid h1
    have H2 := Lib.hid hlen
    clear h1 hlen
    go_enter Try.func34, Try.ntmps34
    go_wp2_with fail
    go_loopw [5] (fun iv wr => ∃ i : Nat, i ≤ l.length ∧ iv = .int .i64 (i : Int) ∧ Hid (l.take i = m.take i) ∧ Qt w wr) (fun iv _ => l.length - (intOf iv).toNat)
    case atStart => exact ⟨0, Nat.zero_le _, rfl, rfl, Qt.refl _⟩
    case round =>
      obtain ⟨i, hi, rfl, hz, hq⟩ := hrel
      by_cases hlt : i < l.length
      · have hltm : i < m.length := by have := H2.out; omega
        obtain ⟨g, off, rfl, _, _, hcell⟩ := (hl.below hq.below).atm hlt
        obtain ⟨g', off', rfl, _, _, hcell'⟩ := (hm.below hq.below).atm hltm
        obtain ⟨xi, hxi⟩ : ∃ z, z = l[i] := ⟨_, rfl⟩
        obtain ⟨yi, hyi⟩ : ∃ z, z = m[i] := ⟨_, rfl⟩
        rw [← hxi] at hcell
        rw [← hyi] at hcell'
        have HN : Hid (xi = yi → l.take (i + 1) = m.take (i + 1)) := by
          intro e
          rw [List.take_succ_eq_append_getElem hlt, List.take_succ_eq_append_getElem hltm, hz.out, ← hxi, ← hyi, e]
        have HD : Hid (xi ≠ yi → R = false) := by
          intro hne
          rw [HR.out, beq_eq_false_iff_ne]
          intro e
          subst e
          exact hne (hxi.trans hyi.symm)
        have b1 : (i : Int) < (m.length : Int) := by omega
        clear hxi hyi hz
        unfold stv at hcell hcell'
        by_cases hxy : xi = yi
        · have hn : (!xi == yi) = false := by simp [hxy]
          have HN2 := Lib.hid (HN.out hxy)
          clear HN HD hxy
          go_wp2_with fail
          go_quiet (fail)
          go_wp2_with fail
          go_roundw
          case rel => exact ⟨i + 1, hlt, by go_num, HN2.out, hq.trans ⟨_, rfl⟩⟩
          case measure => simp [intOf]; omega
        · have hn : (!xi == yi) = true := by simp [hxy]
          have HD2 := Lib.hid (HD.out hxy)
          clear HN HD hxy
          go_wp2_with fail
          go_quiet (fail)
          go_wp2_with fail
          go_ret
          exact ⟨ret_b HD2.out.symm, hq.trans ⟨_, rfl⟩⟩
      · have HZ : Hid (l = m) := by
          have h := hz.out
          rw [List.take_of_length_le (by omega), List.take_of_length_le (by have := H2.out; omega)] at h
          exact h
        clear hz
        go_wp2_with fail
        go_ret
        refine ⟨ret_b ?_, hq⟩
        rw [HR.out, HZ.out]
        simp
  · have hq0 : ((l.length : Int) != (m.length : Int)) = true := by simp; omega
    have hq1 : ((l.length : Int) == (m.length : Int)) = false := by simp; omega
    have HR : Hid (R = false) := by show _ = _; rw [hR, beq_eq_false_iff_ne]; intro e; exact hlen (by rw [e])
    clear hlen hR
    go_enter Try.func34, Try.ntmps34
    go_wp2_with fail
    go_ret
    exact ⟨ret_b HR.out.symm, Qt.refl _⟩
end Go.Proofs.Ytdnljmncdbcgeaa

/- rows as an argument: few and of short paths. -/
namespace Go.Proofs.Ytdnljmncdbcgeaa
open Go.RowKit

structure RV.ok (o : RV) : Prop where
  p : o.p.size ≤ 140737488355328
  v : 0 ≤ o.v ∧ o.v < 18446744073709551616
/-- rows in a slice -/
structure Rws (w : World) (A : Option Addr) (l : List RV) : Prop where
  rd : Rd w (fun _ => True) 5 A l.length (l.flatMap RV.cells)
  ok : ∀ o ∈ l, o.ok
  len : l.length ≤ 140737488355328
theorem Rws.below {w w' : World} {A : Option Addr} {l : List RV} (h : Rws w A l) (k : Below w.heap.size w w') : Rws w' A l := ⟨h.rd.below k, h.ok, h.len⟩
theorem Rws.at_ {w : World} {A : Option Addr} {l : List RV} {i : Nat} (h : Rws w A l) (hi : i < l.length) :
    ∃ b off, A = some ⟨b, off, none⟩ ∧ b < w.heap.size ∧ w.cell? ⟨b, off + i * 5, none⟩ = some (.string l[i].p) ∧ w.cell? ⟨b, off + i * 5 + 1, none⟩ = some (.int .i64 l[i].k) ∧ w.cell? ⟨b, off + i * 5 + 2, none⟩ = some (.int .u64 l[i].v) ∧ w.cell? ⟨b, off + i * 5 + 3, none⟩ = some (.int .u64 l[i].s) ∧ w.cell? ⟨b, off + i * 5 + 4, none⟩ = some (.int .i64 l[i].z) := by
  obtain ⟨b, off, hA, _, hb, hc⟩ := h.rd.2 (by omega)
  have hg : ∀ j, j < 5 → (l.flatMap RV.cells)[i * 5 + j]? = (RV.cells l[i])[j]? := fun j hj => flat_get (k := 5) rv_len l i j hi hj
  refine ⟨b, off, hA, hb, hc _ _ (hg 0 (by omega)), ?_, ?_, ?_, ?_⟩
  · rw [Nat.add_assoc]; exact hc _ _ (hg 1 (by omega))
  · rw [Nat.add_assoc]; exact hc _ _ (hg 2 (by omega))
  · rw [Nat.add_assoc]; exact hc _ _ (hg 3 (by omega))
  · rw [Nat.add_assoc]; exact hc _ _ (hg 4 (by omega))
def lensR (l : List RV) : Nat := (l.map fun o => o.p.size).sum
theorem lensR_take (l : List RV) (i : Nat) (hi : i < l.length) : lensR (l.take (i + 1)) = lensR (l.take i) + l[i].p.size := by
  unfold lensR
  rw [List.take_succ_eq_append_getElem hi, List.map_append, List.sum_append]
  simp
theorem lensR_le (K : Nat) : ∀ l : List RV, (∀ o ∈ l, o.p.size ≤ K) → lensR l ≤ l.length * K
  | [], _ => by simp [lensR]
  | o :: l, h => by
    have h1 := h o (by simp)
    have h2 := lensR_le K l (fun o ho => h o (by simp [ho]))
    simp only [lensR, List.map_cons, List.sum_cons, List.length_cons, Nat.add_mul] at h2 ⊢
    omega
theorem lensR_mem {l : List RV} {o : RV} (h : o ∈ l) : o.p.size ≤ lensR l := by
  induction l with
  | nil => cases h
  | cons y l ih =>
    simp only [lensR, List.map_cons, List.sum_cons] at *
    rcases List.mem_cons.1 h with rfl | h
    · omega
    · have := ih h; omega
/-- the sum that is made: right while few have been seen -/
def SeenR (m : Nat) (l : List RV) (i : Nat) (s : Int) : Prop := i ≤ m → s = (lensR (l.take i) : Int)
theorem SeenR.step {m : Nat} {l : List RV} {i : Nat} {s : Int} (hs : SeenR m l i s) (hm : m ≤ 1000) (hi : i < l.length) (h : ∀ o ∈ l, o.p.size ≤ 140737488355328) : SeenR m l (i + 1) (wrap64 (s + (l[i].p.size : Int))) := by
  intro hi2
  have e := hs (by omega)
  have h1 := lensR_le 140737488355328 (l.take (i + 1)) (fun o ho => h o (List.mem_of_mem_take ho))
  have h4 : (l.take (i + 1)).length ≤ i + 1 := List.length_take_le _ _
  have h2 := lensR_take l i hi
  have h3 : (l.take (i + 1)).length * 140737488355328 ≤ 1001 * 140737488355328 := Nat.mul_le_mul_right _ (by omega)
  rw [h2] at h1 ⊢
  rw [e, IntWalk.wrap64_in _ ⟨by omega, by omega⟩]
  omega
theorem Rws.rw {w : World} {A : Option Addr} {l : List RV} (h : Rws w A l) (hl : l.length ≤ 1000) (hs : lensR l ≤ 5000) : RwR w A l :=
  ⟨h.rd, fun x hx => ⟨by have := lensR_mem hx; omega, (h.ok x hx).v⟩, by omega⟩
/-- rows told of a book's entries -/
def rvS (T : List (List UInt8 × EP)) : List RV := T.map fun y => ⟨⟨⟨y.1⟩⟩, y.2.2.1, y.2.1, 0, y.2.2.2.length⟩
theorem rvS_len (T : List (List UInt8 × EP)) : (rvS T).length = T.length := by simp [rvS]
theorem rvS_cells (T : List (List UInt8 × EP)) : (rvS T).flatMap RV.cells = T.flatMap rowC := by
  unfold rvS
  rw [List.flatMap_map]
  rfl
theorem rvS_pv (T : List (List UInt8 × EP)) : (rvS T).map RV.pv = T.map fun y => (y.1, y.2.1) := by
  unfold rvS
  rw [List.map_map]
  rfl
theorem OwRw.rw {w : World} {base : Nat} {A : Option Addr} {c : Nat} {T : List (List UInt8 × EP)} (h : OwRw w base A c T) (hl : T.length ≤ 1000) (hT : ∀ y ∈ T, y.1.length ≤ 1048576 ∧ 0 ≤ y.2.1 ∧ y.2.1 < 18446744073709551616) : RwR w A (rvS T) := by
  refine ⟨?_, fun x hx => ?_, by rw [rvS_len]; omega⟩
  · rw [rvS_len, rvS_cells]
    exact Rd.of_own h (fun _ _ _ => trivial)
  · obtain ⟨y, hy, rfl⟩ := List.mem_map.1 hx
    have := hT y hy
    exact ⟨this.1, this.2⟩
theorem bestV_none (l : List (List UInt8 × Int)) (p : List UInt8) (h : ∀ r ∈ l, r.1 ≠ p) : bestV l p = 0 := by
  induction l using snoc_ind with
  | h0 => rfl
  | h1 l r ih =>
    rw [bestV_snoc, if_neg (fun e => h r (by simp) e.1), ih (fun r hr => h r (by simp [hr]))]
theorem bestV_one (l : List (List UInt8 × Int)) (p : List UInt8) (v : Int) (hv : 0 ≤ v) (h : ∀ r ∈ l, r.1 = p → r.2 = v) : bestV l p = 0 ∨ bestV l p = v := by
  induction l using snoc_ind with
  | h0 => exact .inl rfl
  | h1 l r ih =>
    rw [bestV_snoc]
    split
    · rename_i h1
      exact .inr (h r (by simp) h1.1)
    · exact ih (fun r hr => h r (by simp [hr]))
theorem bestV_ge (l : List (List UInt8 × Int)) (r : List UInt8 × Int) (h : r ∈ l) : r.2 ≤ bestV l r.1 := by
  induction l using snoc_ind with
  | h0 => cases h
  | h1 l x ih =>
    rw [bestV_snoc]
    rcases List.mem_append.1 h with h | h
    · have := ih h
      split <;> omega
    · obtain rfl := List.mem_singleton.1 h
      split
      · omega
      · rename_i h1
        have : ¬ bestV l r.1 < r.2 := fun e => h1 ⟨rfl, e⟩
        omega
/-- rows of all entries tell each one's version -/
theorem best_own {T : List (List UInt8 × EP)} (hs : SortR T) (h0 : ∀ y ∈ T, 0 ≤ y.2.1) (p : List UInt8) : bestV (T.map fun y => (y.1, y.2.1)) p = verP T p := by
  unfold verP
  rcases hg : getR T p with _ | o
  · refine bestV_none _ _ fun r hr e => ?_
    obtain ⟨y, hy, rfl⟩ := List.mem_map.1 hr
    have := hs.get hy
    rw [show y.1 = p from e, hg] at this
    cases this
  · have hm := getR_mem hg
    have h1 := bestV_ge (T.map fun y => (y.1, y.2.1)) (p, o.1) (List.mem_map.2 ⟨(p, o), hm, rfl⟩)
    have h2 := bestV_one (T.map fun y => (y.1, y.2.1)) p o.1 (h0 _ hm) (fun r hr e => by
      obtain ⟨y, hy, rfl⟩ := List.mem_map.1 hr
      have := hs.get hy
      rw [show y.1 = p from e, hg] at this
      injection this with this
      rw [this])
    have h3 := h0 _ hm
    simp only at h1 h3
    rcases h2 with h2 | h2
    · show _ = o.1
      omega
    · exact h2
theorem fetch_own {T : List (List UInt8 × EP)} (hs : SortR T) (h0 : ∀ y ∈ T, 0 ≤ y.2.1) : fetchS T (T.map fun y => (y.1, y.2.1)) = [] := by
  unfold fetchS
  rw [List.filter_eq_nil_iff]
  intro p _
  rw [best_own hs h0]
  simp
theorem give_own {T : List (List UInt8 × EP)} (hs : SortR T) (h0 : ∀ y ∈ T, 0 ≤ y.2.1) : giveS T (T.map fun y => (y.1, y.2.1)) = [] := by
  unfold giveS
  rw [List.filter_eq_nil_iff]
  intro p _
  rw [best_own hs h0]
  simp
theorem rowsGo_whole (n : Int) : ∀ (T acc : List (List UInt8 × EP)), (acc.length : Int) + T.length ≤ n → rowsGo [] n T acc = (acc ++ T, false)
  | [], acc, _ => by simp [rowsGo]
  | y :: T, acc, h => by
    simp only [List.length_cons] at h
    rw [rowsGo_cons, if_neg (by simp [behB]), if_neg (by omega), rowsGo_whole n T (acc ++ [y]) (by simp; omega)]
    simp
end Go.Proofs.Ytdnljmncdbcgeaa

/- BookOlder is true for every input: of which paths either of two books has an older version, as rows tell of the other one, is the document's; of two that are the same none. No condition beyond the row's own. -/
namespace Go.Proofs.Ytdnljmncdbcgeaa
open Go.RowKit Go.Maps


set_option maxRecDepth 100000 in
set_option maxHeartbeats 4000000 in
theorem bookOlderLaw_any (A : Option Addr) (c : Nat) (l : List EV) (C : Option Addr) (d : Nat) (R : List RV) (w : World) (h : Ents w (fun b => b < w.heap.size) A l) (hr : Rws w C R) :
    Calls Try.prog 7 #[.slice A l.length c, .slice C R.length d] w fun e w' => e = .returned (.bool true) ∧ Below w.heap.size w w' := by
  have HL := Lib.hid (fun W (hW : Below w.heap.size w W) => lightE_any A c l _ W (h.below hW))
  have HA := Lib.hid h
  have HR := Lib.hid hr
  have hrl := hr.len
  clear h hr
  go_enter Try.func7, Try.ntmps7
  go_wp2_with fail
  go_loopw [5, 23] (fun nv iv wr => ∃ (i : Nat) (s : Int), i ≤ R.length ∧ iv = .int .i64 (i : Int) ∧ nv = .int .i64 s ∧ SeenR 100 R i s ∧ Below w.heap.size w wr) (fun _ iv _ => R.length - (intOf iv).toNat)
  case atStart => exact ⟨0, 0, Nat.zero_le _, rfl, rfl, by intro _; simp [lensR], Below.refl _ _⟩
  case round =>
    obtain ⟨i, s, hi, rfl, rfl, hs, hb⟩ := hrel
    by_cases hlt : i < R.length
    · obtain ⟨b, off, hA, hbb, c0, c1, c2, c3, c4⟩ := (HR.out.below hb).at_ hlt
      have hst := Lib.hid (hs.step (by omega) hlt (fun o ho => (HR.out.ok o ho).p))
      have hps := (HR.out.ok _ (List.getElem_mem hlt)).p
      obtain ⟨x, hx⟩ : ∃ x, x = R[i] := ⟨_, rfl⟩
      rw [← hx] at c0 c1 c2 c3 c4 hst hps
      have hba : Below wr.heap.size wr (wr.alloc (.cells #[.string x.p, .int .i64 x.k, .int .u64 x.v, .int .u64 x.s, .int .i64 x.z] 52)) := (Below.refl _ _).alloc (Nat.le_refl _) _
      have z3 := Blk.new wr 52 #[.string x.p, .int .i64 x.k, .int .u64 x.v, .int .u64 x.s, .int .i64 x.z]
      have hw3 := hb.trans (hba.mono hb.size)
      subst hA
      clear hs hx
      go_upto_region 5 with (fail)
      generalize wr.alloc (.cells #[.string x.p, .int .i64 x.k, .int .u64 x.v, .int .u64 x.s, .int .i64 x.z] 52) = w3 at *
      have q0 := z3.cell 0
      have q1 := z3.cell 1
      have q2 := z3.cell 2
      have q3 := z3.cell 3
      have q4 := z3.cell 4
      simp only [List.getElem?_toArray, List.getElem?_cons_zero, List.getElem?_cons_succ] at q0 q1 q2 q3 q4
      clear hba c0 c1 c2 c3 c4
      go_wp2_with fail
      go_roundw
      case rel => exact ⟨i + 1, _, hlt, by go_num, rfl, by have := hst.out; push_cast at this; exact this, hw3⟩
      case measure => simp [intOf]; omega
    · have e : i = R.length := by omega
      subst e
      obtain ⟨w1, hw1e⟩ : ∃ w1, w1 = wr := ⟨_, rfl⟩
      rw [← hw1e] at hb
      have HLW := Lib.hid (HL.out _ hb)
      have hsz1 := hb.size
      subst hw1e
      rcases hli : lightE l with _ | _
      · rw [hli] at HLW
        clear HL
        go_wp2_with fail
        refine HLW.out.mono ?_
        rintro e w2 ⟨rfl, hb2⟩
        have hw2 := hb.trans (hb2.mono hb.size)
        go_wp2_with fail
        refine (lives22_any _).mono ?_
        rintro e w9 ⟨rfl, hb9⟩
        go_wp2_with fail
        go_ret
        exact ⟨rfl, hw2.trans (hb9.mono hw2.size)⟩
      · rw [hli] at HLW
        have hla := lightE_all hli
        by_cases hR1 : R.length ≤ 100
        · have hRd : decide ((100 : Int) < (R.length : Int)) = false := decide_eq_false (by omega)
          have hs2 := hs hR1
          rw [List.take_length] at hs2
          by_cases hR2 : lensR R ≤ 5000
          · have hsd : decide ((5000 : Int) < s) = false := decide_eq_false (by omega)
            have HRR := Lib.hid (HR.out.rw (by omega) hR2)
            clear hs hs2 HL
            go_wp2_with fail
            refine HLW.out.mono ?_
            rintro e w2 ⟨rfl, hb2⟩
            have hw2 := hb.trans (hb2.mono hb.size)
            have HPL := Lib.hid (plays22_any A c l _ w2 (HA.out.below hw2) hla)
            clear HLW HA hb2
            go_wp2_with fail
            refine HPL.out.mono ?_
            rintro e w3 ⟨bb, mo, L, B, d2, M, rfl, hP, hbb, hmo, hb3⟩
            have hw3 := hw2.trans (hb3.mono hw2.size)
            have hba : Below w3.heap.size w3 (w3.alloc (.cells #[.int .u64 0, .slice B M.length d2] 33)) := (Below.refl _ _).alloc (Nat.le_refl _) _
            have y4 := Blk.new w3 33 #[.int .u64 0, .slice B M.length d2]
            have hw4 := hw3.trans (hba.mono hw3.size)
            have HP4 := Lib.hid (hP.below hba)
            clear HPL hP hb3
            go_upto_region 10 with (fail)
            generalize w3.alloc (.cells #[.int .u64 0, .slice B M.length d2] 33) = w4 at *
            generalize hT : playB [] (l.map EV.pl) = T at *
            have hlm : M.length ≤ 256 := by
              have h1 := congrArg List.length HP4.out.plain.out
              have h2 := congrArg List.length HP4.out.same.out
              rw [plainB_len] at h1
              rw [List.length_map] at h2
              have := HP4.out.book.len
              omega
            have HMP : Hid (∀ x ∈ M, x.p.size ≤ 1048576) := Lib.hid (fun x hx => by
              have h1 := checkP_good (HP4.out.ok.good x.pl (by rw [← HP4.out.same.out]; exact List.mem_map.2 ⟨x, hx, rfl⟩))
              have h2 := goodB_len (userB_good h1.1)
              have h3 : x.pl.1 = tl x.p := rfl
              rw [h3, tl_len] at h2
              omega)
            have HTG : Hid (∀ y ∈ T, y.1.length ≤ 1048576 ∧ 0 ≤ y.2.1 ∧ y.2.1 < 18446744073709551616) := Lib.hid (fun y hy => by
              have h1 := checkP_good (HP4.out.ok.good y hy)
              have h2 := goodB_len (userB_good h1.1)
              have h3 := isV_pos h1.2.1
              exact ⟨by omega, by omega, h3.2⟩)
            have HTS := Lib.hid HP4.out.ok.sort
            have hTl : T.length ≤ 256 := by rw [← HP4.out.same.out]; simpa using hlm
            clear hba hT hbb hmo
            have HO1 := bookOlder_any bb mo L 0 C d R w4 HP4.out.book (HRR.out.below hw4)
            rw [HP4.out.plain.out] at HO1
            replace HO1 := Lib.hid HO1
            go_wp2_with fail
            refine HO1.out.mono ?_
            rintro e w5 ⟨⟨A5, B5, c5, d5, f1, g1, rfl, hf1, hg1, hof1, hog1⟩, hb5⟩
            have hw5 := hw4.trans (hb5.mono hw4.size)
            have y5 := y4.below hb5
            have HO2 := refOlder_any B d2 M 0 C d R w5 (HP4.out.es.below hb5) (HRR.out.below hw5) HMP.out (by rw [HP4.out.same.out]; exact HTS.out)
            rw [HP4.out.same.out] at HO2
            replace HO2 := Lib.hid HO2
            have hf1l : f1.length ≤ 1000 := by
              have h1 := theirs_len (R.map RV.pv)
              rw [hf1.out]
              unfold fetchS
              have h2 := List.length_filter_le (fun p => decide (verP T p < bestV (R.map RV.pv) p)) (keysR (theirsS (R.map RV.pv)))
              rw [keys_len] at h2
              rw [List.length_map] at h1
              omega
            have hg1l : g1.length ≤ 1000 := by
              rw [hg1.out]
              unfold giveS
              have h2 := List.length_filter_le (fun p => decide (bestV (R.map RV.pv) p < verP T p)) (keysR T)
              rw [keys_len] at h2
              omega
            have p0 := y5.cell 0
            have p1 := y5.cell 1
            simp only [List.getElem?_toArray, List.getElem?_cons_zero, List.getElem?_cons_succ] at p0 p1
            have HF1 := Lib.hid hof1
            have HG1 := Lib.hid hog1
            clear HO1 hof1 hog1
            go_wp2_with fail
            refine HO2.out.mono ?_
            rintro e w6 ⟨⟨A6, B6, c6, d6, f2, g2, rfl, hf2, hg2, hof2, hog2⟩, hb6⟩
            have hw6 := hw5.trans (hb6.mono hw5.size)
            have hb46 := hb5.trans (hb6.mono hb5.size)
            obtain rfl : f1 = f2 := hf1.out.trans hf2.out.symm
            obtain rfl : g1 = g2 := hg1.out.trans hg2.out.symm
            have HF2 := Lib.hid hof2
            have HG2 := Lib.hid hog2
            have HRS := bookRows_any bb mo L 0 [] 1000 w6 (HP4.out.book.below hb46) (by simp)
            rw [HP4.out.plain.out, rowsGo_whole 1000 T [] (by simp; omega)] at HRS
            replace HRS := Lib.hid HRS
            clear HO2 hof2 hog2 hf1 hf2 hg1 hg2 p0 p1 y4 y5
            go_wp2_with fail
            refine HRS.out.mono ?_
            rintro e w7 ⟨⟨A7, c7, l7, b7, rfl, hl7, ho7⟩, hb7⟩
            obtain ⟨rfl, rfl⟩ : T = l7 ∧ false = b7 := by
              have := hl7.out
              simp at this
              exact ⟨this.1.symm, this.2.symm⟩
            have hw7 := hw6.trans (hb7.mono hw6.size)
            have hb47 := hb46.trans (hb7.mono hb46.size)
            have HO3 := bookOlder_any bb mo L 0 A7 c7 (rvS T) w7 (HP4.out.book.below hb47) (ho7.rw (by omega) HTG.out)
            rw [HP4.out.plain.out, rvS_pv, fetch_own HTS.out (fun y hy => (HTG.out y hy).2.1), give_own HTS.out (fun y hy => (HTG.out y hy).2.1), rvS_len] at HO3
            replace HO3 := Lib.hid HO3
            clear HRS hl7 ho7
            go_wp2_with fail
            refine HO3.out.mono ?_
            rintro e w8 ⟨⟨A8, B8, c8, d8, f3, g3, rfl, hf3, hg3, _, _⟩, hb8⟩
            obtain rfl : f3 = [] := hf3.out
            obtain rfl : g3 = [] := hg3.out
            have hw8 := hw7.trans (hb8.mono hw7.size)
            have hb58 := (hb6.trans (hb7.mono hb6.size)).trans (hb8.mono (hb6.trans (hb7.mono hb6.size)).size)
            have hb68 := hb7.trans (hb8.mono hb7.size)
            have hba : Below w8.heap.size w8 (w8.alloc (.cells #[.int .u64 0, .map none] 69)) := (Below.refl _ _).alloc (Nat.le_refl _) _
            have z9 : BookAt (w8.alloc (.cells #[.int .u64 0, .map none] 69)) w8.heap.size none [] 0 := ⟨Blk.new w8 69 #[.int .u64 0, .map none], .inl ⟨rfl, rfl⟩, by simp, BookOk.nil⟩
            have HF19 := Lib.hid (own_below (own_below HF1.out hb58) hba)
            have HG19 := Lib.hid (own_below (own_below HG1.out hb58) hba)
            have HF29 := Lib.hid (own_below (own_below HF2.out hb68) hba)
            have HG29 := Lib.hid (own_below (own_below HG2.out hb68) hba)
            have hw9 := hw8.trans (hba.mono hw8.size)
            have HZ9 := Lib.hid z9
            clear HO3 hf3 hg3 HF1 HG1 HF2 HG2 z9 HP4
            go_upto_region 18 with (fail)
            generalize w8.alloc (.cells #[.int .u64 0, .map none] 69) = w9 at *
            clear hba
            go_wp2_with fail
            refine (bookNext_nil w9).mono ?_
            rintro e w10 ⟨rfl, rfl⟩
            go_wp2_with fail
            refine (bookPut_nil w9).mono ?_
            rintro e w10 ⟨rfl, hb10⟩
            have hb10' : Below w9.heap.size w9 w10 := hb10
            go_wp2_with fail
            refine (bookLen_nil w10).mono ?_
            rintro e w11 ⟨rfl, rfl⟩
            go_wp2_with fail
            refine (bookClone_nil w10).mono ?_
            rintro e w11 ⟨rfl, rfl⟩
            have HSP := Lib.hid (bookSame_plain w8.heap.size 0 w10 (HZ9.out.below hb10))
            go_wp2_with fail
            refine HSP.out.mono ?_
            rintro e w12 ⟨rfl, hb12⟩
            have hb912 := hb10.trans (hb12.mono hb10.size)
            have HNX := Lib.hid (bookNext_any w8.heap.size none [] 0 w12 (HZ9.out.below hb912) (by omega))
            have HF1D := Lib.hid (own_below HF19.out hb912)
            have HG1D := Lib.hid (own_below HG19.out hb912)
            have HF2D := Lib.hid (own_below HF29.out hb912)
            have HG2D := Lib.hid (own_below HG29.out hb912)
            have hw12 := hw9.trans (hb912.mono hw9.size)
            have hpl : w.heap.size ≤ w8.heap.size := by have := hw8.size; omega
            have hZ12 := HZ9.out.below hb912
            clear HSP hb10 hb10' hb12
            go_wp2_with fail
            refine HNX.out.mono ?_
            rintro e w13 ⟨rfl, _, hfr⟩
            have hw13 : Below w.heap.size w w13 := hw12.trans (hfr.below (B := w.heap.size) hw12.size (fun k hk e => by omega))
            have hn : ∀ {base : Nat} {A : Option Addr} {c : Nat} {l : List (List UInt8)}, w12.ownsRow base 9 1 (.slice A l.length c) l.length (l.map stv) → Rd w13 (fun _ => True) 1 A l.length (l.map stv) := fun {base A c l} ho => by
              have h2 := own_fr ho hfr (fun g hg e => (hZ12.ownT ho (by decide) g hg) (.inl e))
              exact Rd.of_own h2 (fun _ _ _ => trivial)
            have hr1 := hn HF1D.out
            have hr2 := hn HF2D.out
            have hr3 := hn HG1D.out
            have hr4 := hn HG2D.out
            have HS1 := refSame03_any A5 A6 c5 c6 f1 f1 _ _ w13 hr1 hr2 (by omega)
            have HS2 := fun W (hW : Below w13.heap.size w13 W) => refSame03_any B5 B6 d5 d6 g1 g1 _ _ W (hr3.below hW) (hr4.below hW) (by omega)
            rw [show (f1 == f1) = true by simp] at HS1
            rw [show (g1 == g1) = true by simp] at HS2
            replace HS1 := Lib.hid HS1
            replace HS2 := Lib.hid HS2
            clear HNX HF1D HG1D HF2D HG2D hn hr1 hr2 hr3 hr4 hZ12 hfr
            go_wp2_with fail
            refine HS1.out.mono ?_
            rintro e w14 ⟨rfl, hq14⟩
            have HS3 := Lib.hid (HS2.out w14 hq14.below)
            have hw14 := hw13.trans (hq14.below.mono hw13.size)
            go_wp2_with fail
            refine HS3.out.mono ?_
            rintro e w15 ⟨rfl, hq15⟩
            have hw15 := hw14.trans (hq15.below.mono hw14.size)
            go_wp2_with fail
            refine (lives22_any _).mono ?_
            rintro e w9 ⟨rfl, hb9⟩
            go_wp2_with fail
            go_ret
            exact ⟨rfl, hw15.trans (hb9.mono hw15.size)⟩
          · have hsd : decide ((5000 : Int) < s) = true := decide_eq_true (by omega)
            clear hs hs2 HL
            go_wp2_with fail
            refine HLW.out.mono ?_
            rintro e w2 ⟨rfl, hb2⟩
            have hw2 := hb.trans (hb2.mono hb.size)
            go_wp2_with fail
            refine (lives22_any _).mono ?_
            rintro e w9 ⟨rfl, hb9⟩
            go_wp2_with fail
            go_ret
            exact ⟨rfl, hw2.trans (hb9.mono hw2.size)⟩
        · have hRd : decide ((100 : Int) < (R.length : Int)) = true := decide_eq_true (by omega)
          clear hs HL
          go_wp2_with fail
          refine HLW.out.mono ?_
          rintro e w2 ⟨rfl, hb2⟩
          have hw2 := hb.trans (hb2.mono hb.size)
          go_wp2_with fail
          refine (lives22_any _).mono ?_
          rintro e w9 ⟨rfl, hb9⟩
          go_wp2_with fail
          go_ret
          exact ⟨rfl, hw2.trans (hb9.mono hw2.size)⟩

end Go.Proofs.Ytdnljmncdbcgeaa

/- api.Leaf: as an argument. -/
namespace Go.Proofs.Ytdnljmncdbcgeaa
open Go.RowKit Go.WideShapes Go.ChangeShapes Go.ChangeAt Go.Deep Go.Joins

section
variable {H : Type} {enc : TypeId × Value → H} {w : World} {spare : Nat → Bool} {held : Bool}
/-- what is known of a leaf -/
structure LV.okAt (w : World) (Z : Nat → Prop) (o : LV) : Prop where
  x : o.x.ok w Z
  len : o.x.l.length ≤ 140737488355328
  k : -9223372036854775808 ≤ o.k ∧ o.k < 9223372036854775808
theorem list2 {α : Type} {l : List α} (h : l.length = 2) : ∃ a0 a1, l = [a0, a1] := by
  match l, h with
  | [a0, a1], _ => exact ⟨_, _, rfl⟩
set_option maxRecDepth 100000 in
theorem open_leaf {n : Nat} {cs : List Value} {x : DataW H × List MemPlace} (h : DataW.trod enc Try.prog w 0 spare held n 26 cs = some x) (hw : Within 26 x) :
    ∃ o : LV, cs = o.cells ∧ o.okAt w (fun b => b < w.heap.size) := by
  obtain ⟨ys, n', hcl, hyl, hf⟩ := open_st Try.underlying26 (by kernel_rfl) h (by kernel_rfl) hw
  obtain ⟨a0, a1, rfl⟩ := list2 hcl
  obtain ⟨y0, y1, rfl⟩ := list2 hyl
  obtain ⟨k, e, _, wk⟩ := DataW.trod_int Try.underlying3 (hf 0 _ _ _ rfl rfl rfl).1
  obtain rfl := List.singleton_inj.1 e
  obtain ⟨b, rfl, hb, hbl⟩ := open_bv (hf 1 _ _ _ rfl rfl rfl).1 (hf 1 _ _ _ rfl rfl rfl).2
  have bk := i64_bd wk
  exact ⟨⟨k, b⟩, rfl, hb, hbl, bk⟩
set_option maxRecDepth 100000 in
theorem open_leafv {r : Reach} {b0 : Nat} {v : Value} {d : DataW H} {p : List MemPlace} (hv : Value.okWide Try.prog w r b0 26 v) (h : DataW.Trod enc Try.prog w 0 spare held 26 v d p) (hw : Within 26 (d, p)) :
    ∃ o : LV, v = .agg #[.int .i64 o.k, .slice o.x.A o.x.l.length o.x.c] ∧ o.okAt w (fun b => b < w.heap.size) := by
  obtain ⟨cs, rfl, hsz⟩ := okWide_struct Try.underlying26 hv
  obtain ⟨l⟩ := cs
  obtain ⟨n, hn⟩ := h
  obtain ⟨o, e, ho⟩ := open_leaf (cs := l) hn hw
  subst e
  exact ⟨o, rfl, ho⟩
end
end Go.Proofs.Ytdnljmncdbcgeaa

/- api.Entry: as an argument, in slices. -/
namespace Go.Proofs.Ytdnljmncdbcgeaa
open Go.RowKit Go.WideShapes Go.ChangeShapes Go.ChangeAt Go.ChangeMaps Go.Deep Go.Joins

section
variable {H : Type} {enc : TypeId × Value → H} {w : World} {spare : Nat → Bool} {held : Bool}
/-- a struct of fields of any number of cells -/
theorem open_stg {t : TypeId} {fs : Array Field} {N : Nat} (hs : Try.prog.underlying t = some (.struct fs)) {n : Nat} {cs : List Value} {x : DataW H × List MemPlace} (h : DataW.trod enc Try.prog w 0 spare held n t cs = some x) (hC : Try.prog.cellsOf t = N) (hw : Within t x) :
    ∃ (ys : List (DataW H × List MemPlace)) (n' : Nat), cs.length = N ∧ ys.length = fs.size ∧
      ∀ (j : Nat) (f : Field) (y : DataW H × List MemPlace), fs[j]? = some f → ys[j]? = some y → DataW.trod enc Try.prog w 0 spare held n' f.type ((cs.drop f.offset).take (Try.prog.cellsOf f.type)) = some y ∧ Within f.type y := by
  obtain ⟨xs, n', _, hx, hl, hlen, hg⟩ := DataW.trod_struct hs h
  rw [hC] at hl
  refine ⟨xs, n', hl, hlen, fun j f y hj hy => ⟨by rw [hg j f hj, hy], fun k hk => hw k ?_⟩⟩
  rw [hx]
  simp only [DataW.weights, hs]
  refine DataW.weights_mem_each (j := j) (t := f.type) (d := y.1) ?_ ?_ k hk
  · rw [List.getElem?_map]
    have : fs.toList[j]? = some f := by simpa using hj
    rw [this]; rfl
  · rw [List.getElem?_map, hy]; rfl
theorem list3 {α : Type} {l : List α} (h : l.length = 3) : ∃ a0 a1 a2, l = [a0, a1, a2] := by
  match l, h with
  | [a0, a1, a2], _ => exact ⟨_, _, _, rfl⟩
theorem str_within {b : List UInt8} {p : List MemPlace} (hw : Within 9 ((DataW.lit (Lit.string b) : DataW H), p)) : b.length ≤ 140737488355328 := by
  have h1 := hw b.length (by simp [DataW.weights])
  have h2 := reachBytes_lt
  omega
set_option maxRecDepth 100000 in
theorem open_ent {n : Nat} {cs : List Value} {x : DataW H × List MemPlace} (h : DataW.trod enc Try.prog w 0 spare held n 28 cs = some x) (hw : Within 28 x) :
    ∃ o : EV, cs = o.cells ∧ o.ok w (fun b => b < w.heap.size) := by
  obtain ⟨ys, n', hcl, hyl, hf⟩ := open_stg (N := 4) Try.underlying28 h (by kernel_rfl) hw
  obtain ⟨a0, a1, a2, a3, rfl⟩ := list4 hcl
  obtain ⟨y0, y1, y2, rfl⟩ := list3 hyl
  obtain ⟨f0, w0⟩ := hf 0 _ _ rfl rfl
  obtain ⟨f1, w1⟩ := hf 1 _ _ rfl rfl
  obtain ⟨f2, w2⟩ := hf 2 _ _ rfl rfl
  have c0 : Try.prog.cellsOf 9 = 1 := by kernel_rfl
  have c1 : Try.prog.cellsOf 23 = 1 := by kernel_rfl
  have c2 : Try.prog.cellsOf 26 = 2 := by kernel_rfl
  replace f0 : DataW.trod enc Try.prog w 0 spare held n' 9 (([a0, a1, a2, a3].drop 0).take (Try.prog.cellsOf 9)) = some y0 := f0
  replace f1 : DataW.trod enc Try.prog w 0 spare held n' 23 (([a0, a1, a2, a3].drop 1).take (Try.prog.cellsOf 23)) = some y1 := f1
  replace f2 : DataW.trod enc Try.prog w 0 spare held n' 26 (([a0, a1, a2, a3].drop 2).take (Try.prog.cellsOf 26)) = some y2 := f2
  rw [c0] at f0
  rw [c1] at f1
  rw [c2] at f2
  obtain ⟨p, e, hx0, _⟩ := DataW.trod_string Try.underlying9 f0
  obtain ⟨v, e1, _, wv⟩ := DataW.trod_int Try.underlying23 f1
  obtain ⟨o, e2, ho⟩ := open_leaf f2 w2
  obtain rfl : a0 = .string p := by simpa using e
  obtain rfl : a1 = .int .u64 v := by simpa using e1
  obtain ⟨k, xx⟩ := o
  obtain ⟨rfl, rfl⟩ : a2 = .int .i64 k ∧ a3 = .slice xx.A xx.l.length xx.c := by simpa [LV.cells] using e2
  rw [hx0] at w0
  refine ⟨⟨p, v, k, xx⟩, rfl, ho.x, ho.len, ?_, u64_bd wv, ho.k⟩
  have h1 := str_within w0
  have h2 : p.data.toList.length = p.size := by simp
  show p.size ≤ _
  omega
set_option maxRecDepth 100000 in
theorem open_entv {r : Reach} {b0 : Nat} {v : Value} {d : DataW H} {p : List MemPlace} (hv : Value.okWide Try.prog w r b0 28 v) (h : DataW.Trod enc Try.prog w 0 spare held 28 v d p) (hw : Within 28 (d, p)) :
    ∃ o : EV, v = .agg #[.string o.p, .int .u64 o.v, .int .i64 o.k, .slice o.x.A o.x.l.length o.x.c] ∧ o.ok w (fun b => b < w.heap.size) := by
  obtain ⟨cs, rfl, hsz⟩ := okWide_struct Try.underlying28 hv
  obtain ⟨l⟩ := cs
  obtain ⟨n, hn⟩ := h
  obtain ⟨o, e, ho⟩ := open_ent (cs := l) hn hw
  subst e
  exact ⟨o, rfl, ho⟩
set_option maxRecDepth 100000 in
theorem open_ents {n : Nat} {v : Value} {x : DataW H × List MemPlace} (h : DataW.trod enc Try.prog w 0 spare held n 22 [v] = some x) (hw : Within 22 x) :
    ∃ (A : Option Addr) (c : Nat) (l : List EV), v = .slice A l.length c ∧ Ents w (fun b => b < w.heap.size) A l := by
  obtain ⟨A, c, l, rfl, _, _, h3, h4, h5⟩ := open_sl (w := w) (enc := enc) (spare := spare) (held := held) EV.cells (fun o => o.ok w (fun b => b < w.heap.size)) 4 56 (t := 22) (e := 28) Try.underlying22 (by kernel_rfl) (by kernel_rfl) (by omega) (fun n cs x hx hx2 => open_ent hx hx2) h hw
  refine ⟨A, c, l, rfl, h3, h4, ?_⟩
  have := reachBytes_lt
  omega
end
end Go.Proofs.Ytdnljmncdbcgeaa

/- api.Row: in slices, as an argument. -/
namespace Go.Proofs.Ytdnljmncdbcgeaa
open Go.RowKit Go.WideShapes Go.ChangeShapes Go.ChangeAt Go.ChangeMaps Go.Deep Go.Joins

section
variable {H : Type} {enc : TypeId × Value → H} {w : World} {spare : Nat → Bool} {held : Bool}
theorem list5 {α : Type} {l : List α} (h : l.length = 5) : ∃ a0 a1 a2 a3 a4, l = [a0, a1, a2, a3, a4] := by
  match l, h with
  | [a0, a1, a2, a3, a4], _ => exact ⟨_, _, _, _, _, rfl⟩
set_option maxRecDepth 100000 in
theorem open_row {n : Nat} {cs : List Value} {x : DataW H × List MemPlace} (h : DataW.trod enc Try.prog w 0 spare held n 52 cs = some x) (hw : Within 52 x) :
    ∃ o : RV, cs = o.cells ∧ o.ok := by
  obtain ⟨ys, n', hcl, hyl, hf⟩ := open_stg (N := 5) Try.underlying52 h (by kernel_rfl) hw
  obtain ⟨a0, a1, a2, a3, a4, rfl⟩ := list5 hcl
  obtain ⟨y0, y1, y2, y3, y4, rfl⟩ := list5 hyl
  obtain ⟨f0, w0⟩ := hf 0 _ _ rfl rfl
  obtain ⟨f1, w1⟩ := hf 1 _ _ rfl rfl
  obtain ⟨f2, w2⟩ := hf 2 _ _ rfl rfl
  obtain ⟨f3, w3⟩ := hf 3 _ _ rfl rfl
  obtain ⟨f4, w4⟩ := hf 4 _ _ rfl rfl
  have c0 : Try.prog.cellsOf 9 = 1 := by kernel_rfl
  have c1 : Try.prog.cellsOf 3 = 1 := by kernel_rfl
  have c2 : Try.prog.cellsOf 23 = 1 := by kernel_rfl
  replace f0 : DataW.trod enc Try.prog w 0 spare held n' 9 (([a0, a1, a2, a3, a4].drop 0).take (Try.prog.cellsOf 9)) = some y0 := f0
  replace f1 : DataW.trod enc Try.prog w 0 spare held n' 3 (([a0, a1, a2, a3, a4].drop 1).take (Try.prog.cellsOf 3)) = some y1 := f1
  replace f2 : DataW.trod enc Try.prog w 0 spare held n' 23 (([a0, a1, a2, a3, a4].drop 2).take (Try.prog.cellsOf 23)) = some y2 := f2
  replace f3 : DataW.trod enc Try.prog w 0 spare held n' 23 (([a0, a1, a2, a3, a4].drop 3).take (Try.prog.cellsOf 23)) = some y3 := f3
  replace f4 : DataW.trod enc Try.prog w 0 spare held n' 3 (([a0, a1, a2, a3, a4].drop 4).take (Try.prog.cellsOf 3)) = some y4 := f4
  rw [c0] at f0
  rw [c1] at f1 f4
  rw [c2] at f2 f3
  obtain ⟨p, e, hx0, _⟩ := DataW.trod_string Try.underlying9 f0
  obtain ⟨k, e1, _, wk⟩ := DataW.trod_int Try.underlying3 f1
  obtain ⟨v, e2, _, wv⟩ := DataW.trod_int Try.underlying23 f2
  obtain ⟨s, e3, _, ws⟩ := DataW.trod_int Try.underlying23 f3
  obtain ⟨z, e4, _, wz⟩ := DataW.trod_int Try.underlying3 f4
  obtain rfl : a0 = .string p := by simpa using e
  obtain rfl : a1 = .int .i64 k := by simpa using e1
  obtain rfl : a2 = .int .u64 v := by simpa using e2
  obtain rfl : a3 = .int .u64 s := by simpa using e3
  obtain rfl : a4 = .int .i64 z := by simpa using e4
  rw [hx0] at w0
  refine ⟨⟨p, k, v, s, z⟩, rfl, ?_, u64_bd wv⟩
  have h1 := str_within w0
  have h2 : p.data.toList.length = p.size := by simp
  show p.size ≤ _
  omega
set_option maxRecDepth 100000 in
theorem open_rws {n : Nat} {v : Value} {x : DataW H × List MemPlace} (h : DataW.trod enc Try.prog w 0 spare held n 47 [v] = some x) (hw : Within 47 x) :
    ∃ (A : Option Addr) (c : Nat) (l : List RV), v = .slice A l.length c ∧ Rws w A l ∧ l.length ≤ c ∧ c ≤ maxLen := by
  obtain ⟨A, c, l, rfl, hc1, hc2, h3, h4, h5⟩ := open_sl (w := w) (enc := enc) (spare := spare) (held := held) RV.cells (fun o => o.ok) 5 48 (t := 47) (e := 52) Try.underlying47 (by kernel_rfl) (by kernel_rfl) (by omega) (fun n cs x h hw => open_row h hw) h hw
  refine ⟨A, c, l, rfl, ⟨h3.mono (fun _ _ _ => trivial), h4, ?_⟩, hc1, hc2⟩
  have := reachBytes_lt
  omega
end
end Go.Proofs.Ytdnljmncdbcgeaa
